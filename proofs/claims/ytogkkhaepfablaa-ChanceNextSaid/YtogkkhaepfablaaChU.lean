/- Chance: Pick. -/
import Derived.Test.YtogkkhaepfablaaChT
namespace Go.Proofs.Ytogkkhaepfablaa
open Go.RowKit Go.Shelf
set_option linter.unusedSimpArgs false

theorem row_w {ws : List W8} {j : Nat} {x : List Value} (h : (wRows ws)[j]? = some x) : ∃ y, ws[j]? = some y ∧ x = wRow y := by
  unfold wRows at h
  rw [List.getElem?_map] at h
  cases hx : ws[j]? with
  | none => rw [hx] at h; cases h
  | some y => rw [hx] at h; simp only [Option.map_some, Option.some.injEq] at h; exact ⟨y, rfl, h.symm⟩
theorem ups_get (S : Nat → W8) {n j : Nat} (h : j < n) : (wRows (upsW S n))[j]? = some (wRow (S (j + 1))) := by
  unfold wRows upsW
  rw [List.getElem?_map, List.getElem?_map, List.getElem?_range h]
  rfl
/-- What Pick hands back. -/
def PickEnd (w : World) (k : Int) (t : Nat) (en : Int) (e : Ending) (w' : World) : Prop := e = .returned (.tuple #[.int .i64 k, .agg #[.int .u64 (t : Nat)], .int .i64 en]) ∧ Lat w w'
theorem LatP.back {w W : World} {g : Nat} (h : LatP (· = g) w W) {W0 : World} (h0 : Lat W0 w) (hg : W0.heap.size ≤ g) : Lat W0 W := h.narrow h0 hg


set_option maxRecDepth 100000 in
set_option maxHeartbeats 8000000 in
theorem pick_neg (A : Option Addr) (n c s : Nat) (ws : List W8) (hn : n ≤ 400) (sg : Nat → Int) (HG : ∀ i x, ws[i]? = some x → ∀ w, Calls Try.prog 32 #[.agg #[.int .u64 x.a0, .int .u64 x.a1, .int .u64 x.a2, .int .u64 x.a3, .int .u64 x.a4, .int .u64 x.a5, .int .u64 x.a6, .int .u64 x.a7]] w (fun e w' => e = .returned (.int .i64 (sg i)) ∧ Lat w w')) (p : Nat) (hpn : p < n) (HS0 : Hid (∀ i, i < p → 0 ≤ sg i)) (HNEG : sg p < 0) (w : World) (hr : RowM w A 8 n (wRows ws)) :
    Calls Try.prog 22 #[.agg #[.int .u64 s], .slice A n c] w (PickEnd w 0 0 2) := by
  have HGH := Lib.hid HG
  clear HG
  have hn4 : ¬ (400 : Int) < (n : Int) := by omega
  go_enter Try.func22, Try.ntmps22
  go_upto_region 4 with (fail)
  refine name2 (Q := fun W => Code.wp _ _ _ _ W) ?_
  intro W hl hs k2 k5
  have R0 := hr.later hl
  clear hr
  go_loopw [21] (fun i wr => ∃ j : Nat, j ≤ p ∧ i = .int .i64 j ∧ Lat W wr) (fun i _ => n - (intOf i).toNat)
  case atStart => exact ⟨0, by omega, rfl, Lat.refl _⟩
  case round =>
    obtain ⟨j, hj, rfl, hlr⟩ := hrel
    by_cases hlt : j < n
    · obtain ⟨g, o, x, rfl, hgl2, hx, hxl, hrg⟩ := (R0.later hlr).at hlt
      obtain ⟨x, hxw, rfl⟩ := row_w hx
      have hrg : wr.rangeAt g (o + j * 8) [.int .u64 x.a0, .int .u64 x.a1, .int .u64 x.a2, .int .u64 x.a3, .int .u64 x.a4, .int .u64 x.a5, .int .u64 x.a6, .int .u64 x.a7] := hrg
      have HG1 := HGH.out j x hxw
      have hltI : (j : Int) < (n : Int) := by omega
      have b0 : (0 : Int) ≤ (j : Int) := by omega
      clear hx hxl hxw
      by_cases hp : j = p
      · subst hp
        have hsg := HNEG
        have hsd : decide (sg j < 0) = true := decide_eq_true (by omega)
        go_wp2_with (refine wpList_load_mid (by rfl) 44 (.tmp 23) (by rfl) g (o + j * 8) (by rfl) [.int .u64 x.a0, .int .u64 x.a1, .int .u64 x.a2, .int .u64 x.a3, .int .u64 x.a4, .int .u64 x.a5, .int .u64 x.a6, .int .u64 x.a7] _ hrg Try.underlying44 rfl (by kernel_rfl) ?_)
        refine name1 (Q := fun W => Calls _ _ _ W _) ?_
        intro V1 l1 hs1 k8
        refine (HG1 V1).mono ?_
        rintro e V2 ⟨rfl, l2⟩
        have LL := hlr.trans (l1.trans l2)
        clear l1 l2 hs1 k8 hrg HG1
        have k5 := k5.later LL
        have L2 := hl.trans LL
        have c5 : V2.cell? ⟨w.heap.size + 1, 0, none⟩ = some (.int .u64 0) := k5.cell 0
        have f5 := k5.frozen 0
        have h5 := k5.lt
        go_wp2
        refine name_set (Q := fun W => bodyPost _ _ _ _ _ W) k5 ?_
        intro V3 j5 _ _ l5
        have c6 : V3.cell? ⟨w.heap.size + 1, 0, none⟩ = some (.int .u64 0) := j5.cell 0
        refine bodyPost_ret (v := .tuple #[.int .i64 0, .agg #[.int .u64 0], .int .i64 2]) (by simp [results, Try.results22, go_sem, c6]) rfl ?_
        exact ⟨rfl, l5.narrow L2 (by omega)⟩
      · go_wp2_with (refine wpList_load_mid (by rfl) 44 (.tmp 23) (by rfl) g (o + j * 8) (by rfl) [.int .u64 x.a0, .int .u64 x.a1, .int .u64 x.a2, .int .u64 x.a3, .int .u64 x.a4, .int .u64 x.a5, .int .u64 x.a6, .int .u64 x.a7] _ hrg Try.underlying44 rfl (by kernel_rfl) ?_)
        refine name1 (Q := fun W => Calls _ _ _ W _) ?_
        intro V1 l1 hs1 k8
        refine (HG1 V1).mono ?_
        rintro e V2 ⟨rfl, l2⟩
        have LL := hlr.trans (l1.trans l2)
        clear l1 l2 hs1 k8 hrg HG1
        have hsg := HS0.out j (by omega)
        have hsd : decide (sg j < 0) = false := decide_eq_false (by omega)
        clear HS0
        go_wp2
        go_roundw
        case rel => exact ⟨j + 1, by omega, by go_num, LL⟩
        case measure => simp [intOf]; omega
    · exact absurd hpn (by omega)


set_option maxRecDepth 100000 in
set_option maxHeartbeats 8000000 in
theorem pick_none (A : Option Addr) (n c s : Nat) (ws : List W8) (hn : n ≤ 400) (sg : Nat → Int) (HG : ∀ i x, ws[i]? = some x → ∀ w, Calls Try.prog 32 #[.agg #[.int .u64 x.a0, .int .u64 x.a1, .int .u64 x.a2, .int .u64 x.a3, .int .u64 x.a4, .int .u64 x.a5, .int .u64 x.a6, .int .u64 x.a7]] w (fun e w' => e = .returned (.int .i64 (sg i)) ∧ Lat w w')) (w : World) (hn0 : n = 0) (S : Nat → W8) (HS0 : Hid (∀ i, i < n → 0 ≤ sg i)) (HSUM : ∀ g9 W, Lat w W → g9 < W.heap.size → w.heap.size ≤ g9 → Blk W g9 29 #[.int .i64 0] → Calls Try.prog 36 #[.slice A n c, .func (.func 37) #[] #[.pointer (some ⟨g9, 0, none⟩)]] W
      (fun e w' => ∃ v, e = .returned v ∧ OwnM w' W.heap.size 44 8 v (wRows (upsW S n)) ∧ Blk w' g9 29 #[.int .i64 0] ∧ LatP (· = g9) W w')) (hr : RowM w A 8 n (wRows ws)) :
    Calls Try.prog 22 #[.agg #[.int .u64 s], .slice A n c] w (PickEnd w 0 0 7) := by
  have HN0 := Lib.hid hn0
  clear hn0
  have HGH := Lib.hid HG
  clear HG
  have hn4 : ¬ (400 : Int) < (n : Int) := by omega
  go_enter Try.func22, Try.ntmps22
  go_upto_region 4 with (fail)
  refine name2 (Q := fun W => Code.wp _ _ _ _ W) ?_
  intro W hl hs k2 k5
  have R0 := hr.later hl
  clear hr
  go_loopw [21] (fun i wr => ∃ j : Nat, j ≤ n ∧ i = .int .i64 j ∧ Lat W wr) (fun i _ => n - (intOf i).toNat)
  case atStart => exact ⟨0, by omega, rfl, Lat.refl _⟩
  case round =>
    obtain ⟨j, hj, rfl, hlr⟩ := hrel
    by_cases hlt : j < n
    · obtain ⟨g, o, x, rfl, hgl2, hx, hxl, hrg⟩ := (R0.later hlr).at hlt
      obtain ⟨x, hxw, rfl⟩ := row_w hx
      have hrg : wr.rangeAt g (o + j * 8) [.int .u64 x.a0, .int .u64 x.a1, .int .u64 x.a2, .int .u64 x.a3, .int .u64 x.a4, .int .u64 x.a5, .int .u64 x.a6, .int .u64 x.a7] := hrg
      have HG1 := HGH.out j x hxw
      have hltI : (j : Int) < (n : Int) := by omega
      have b0 : (0 : Int) ≤ (j : Int) := by omega
      clear hx hxl hxw
      go_wp2_with (refine wpList_load_mid (by rfl) 44 (.tmp 23) (by rfl) g (o + j * 8) (by rfl) [.int .u64 x.a0, .int .u64 x.a1, .int .u64 x.a2, .int .u64 x.a3, .int .u64 x.a4, .int .u64 x.a5, .int .u64 x.a6, .int .u64 x.a7] _ hrg Try.underlying44 rfl (by kernel_rfl) ?_)
      refine name1 (Q := fun W => Calls _ _ _ W _) ?_
      intro V1 l1 hs1 k8
      refine (HG1 V1).mono ?_
      rintro e V2 ⟨rfl, l2⟩
      have LL := hlr.trans (l1.trans l2)
      clear l1 l2 hs1 k8 hrg HG1
      have hsg := HS0.out j hlt
      have hsd : decide (sg j < 0) = false := decide_eq_false (by omega)
      clear HS0
      go_wp2
      go_roundw
      case rel => exact ⟨j + 1, by omega, by go_num, LL⟩
      case measure => simp [intOf]; omega
    · obtain rfl : j = n := by omega
      clear hj hlt
      have k2 := k2.later hlr
      have k5 := k5.later hlr
      have L1 := hl.trans hlr
      have hs1 : w.heap.size + 2 ≤ wr.heap.size := by have := hlr.size; omega
      clear hlr hs R0
      go_wp2_with fail
      refine name1 (Q := fun W => Calls _ _ _ W _) ?_
      intro V1 l1 hs2 k9
      refine (HSUM wr.heap.size V1 (L1.trans l1) hs2 (by omega) k9).mono ?_
      rintro e V2 ⟨v, rfl, O, k9, l2⟩
      have k2 := (k2.later l1).keepP l2 (by omega)
      have k5 := (k5.later l1).keepP l2 (by omega)
      have L2 : Lat w V2 := l2.narrow (L1.trans l1) (by omega)
      have hs3 : w.heap.size + 2 ≤ V2.heap.size := by have := l2.size; omega
      obtain ⟨g9, hg9⟩ : ∃ z, wr.heap.size = z := ⟨_, rfl⟩
      rw [hg9] at k9 ⊢
      obtain ⟨A', c', rfl, R, _, hA', _⟩ := O.form
      rw [upsW_length] at R ⊢
      clear l1 l2 L1 hs1 hs2 hg9 HSUM O
      have e9 : V2.cell? ⟨g9, 0, none⟩ = some (.int .i64 0) := k9.cell 0
      have hnb : ((j : Int) == 0) = true := by simp [HN0.out]
      have c5 : V2.cell? ⟨w.heap.size + 1, 0, none⟩ = some (.int .u64 0) := k5.cell 0
      have f5 := k5.frozen 0
      have h5 := k5.lt
      go_wp2
      refine name_set (Q := fun W => bodyPost _ _ _ _ _ W) k5 ?_
      intro V3 j5 _ _ l5
      have c6 : V3.cell? ⟨w.heap.size + 1, 0, none⟩ = some (.int .u64 0) := j5.cell 0
      refine bodyPost_ret (v := .tuple #[.int .i64 0, .agg #[.int .u64 0], .int .i64 7]) (by simp [results, Try.results22, go_sem, c6]) rfl ?_
      exact ⟨rfl, l5.narrow L2 (by omega)⟩


set_option maxRecDepth 100000 in
set_option maxHeartbeats 8000000 in
theorem pick_zero (A : Option Addr) (n c s : Nat) (ws : List W8) (hn : n ≤ 400) (sg : Nat → Int) (HG : ∀ i x, ws[i]? = some x → ∀ w, Calls Try.prog 32 #[.agg #[.int .u64 x.a0, .int .u64 x.a1, .int .u64 x.a2, .int .u64 x.a3, .int .u64 x.a4, .int .u64 x.a5, .int .u64 x.a6, .int .u64 x.a7]] w (fun e w' => e = .returned (.int .i64 (sg i)) ∧ Lat w w')) (w : World) (hn0 : 0 < n) (S : Nat → W8) (HS0 : Hid (∀ i, i < n → 0 ≤ sg i)) (HSUM : ∀ g9 W, Lat w W → g9 < W.heap.size → w.heap.size ≤ g9 → Blk W g9 29 #[.int .i64 0] → Calls Try.prog 36 #[.slice A n c, .func (.func 37) #[] #[.pointer (some ⟨g9, 0, none⟩)]] W
      (fun e w' => ∃ v, e = .returned v ∧ OwnM w' W.heap.size 44 8 v (wRows (upsW S n)) ∧ Blk w' g9 29 #[.int .i64 0] ∧ LatP (· = g9) W w')) (HZ : ∀ w, Calls Try.prog 32 #[.agg #[.int .u64 (S n).a0, .int .u64 (S n).a1, .int .u64 (S n).a2, .int .u64 (S n).a3, .int .u64 (S n).a4, .int .u64 (S n).a5, .int .u64 (S n).a6, .int .u64 (S n).a7]] w (fun e w' => e = .returned (.int .i64 0) ∧ Lat w w')) (hr : RowM w A 8 n (wRows ws)) :
    Calls Try.prog 22 #[.agg #[.int .u64 s], .slice A n c] w (PickEnd w 0 0 7) := by
  have HGH := Lib.hid HG
  clear HG
  have hn4 : ¬ (400 : Int) < (n : Int) := by omega
  go_enter Try.func22, Try.ntmps22
  go_upto_region 4 with (fail)
  refine name2 (Q := fun W => Code.wp _ _ _ _ W) ?_
  intro W hl hs k2 k5
  have R0 := hr.later hl
  clear hr
  go_loopw [21] (fun i wr => ∃ j : Nat, j ≤ n ∧ i = .int .i64 j ∧ Lat W wr) (fun i _ => n - (intOf i).toNat)
  case atStart => exact ⟨0, by omega, rfl, Lat.refl _⟩
  case round =>
    obtain ⟨j, hj, rfl, hlr⟩ := hrel
    by_cases hlt : j < n
    · obtain ⟨g, o, x, rfl, hgl2, hx, hxl, hrg⟩ := (R0.later hlr).at hlt
      obtain ⟨x, hxw, rfl⟩ := row_w hx
      have hrg : wr.rangeAt g (o + j * 8) [.int .u64 x.a0, .int .u64 x.a1, .int .u64 x.a2, .int .u64 x.a3, .int .u64 x.a4, .int .u64 x.a5, .int .u64 x.a6, .int .u64 x.a7] := hrg
      have HG1 := HGH.out j x hxw
      have hltI : (j : Int) < (n : Int) := by omega
      have b0 : (0 : Int) ≤ (j : Int) := by omega
      clear hx hxl hxw
      go_wp2_with (refine wpList_load_mid (by rfl) 44 (.tmp 23) (by rfl) g (o + j * 8) (by rfl) [.int .u64 x.a0, .int .u64 x.a1, .int .u64 x.a2, .int .u64 x.a3, .int .u64 x.a4, .int .u64 x.a5, .int .u64 x.a6, .int .u64 x.a7] _ hrg Try.underlying44 rfl (by kernel_rfl) ?_)
      refine name1 (Q := fun W => Calls _ _ _ W _) ?_
      intro V1 l1 hs1 k8
      refine (HG1 V1).mono ?_
      rintro e V2 ⟨rfl, l2⟩
      have LL := hlr.trans (l1.trans l2)
      clear l1 l2 hs1 k8 hrg HG1
      have hsg := HS0.out j hlt
      have hsd : decide (sg j < 0) = false := decide_eq_false (by omega)
      clear HS0
      go_wp2
      go_roundw
      case rel => exact ⟨j + 1, by omega, by go_num, LL⟩
      case measure => simp [intOf]; omega
    · obtain rfl : j = n := by omega
      clear hj hlt
      have k2 := k2.later hlr
      have k5 := k5.later hlr
      have L1 := hl.trans hlr
      have hs1 : w.heap.size + 2 ≤ wr.heap.size := by have := hlr.size; omega
      clear hlr hs R0
      go_wp2_with fail
      refine name1 (Q := fun W => Calls _ _ _ W _) ?_
      intro V1 l1 hs2 k9
      refine (HSUM wr.heap.size V1 (L1.trans l1) hs2 (by omega) k9).mono ?_
      rintro e V2 ⟨v, rfl, O, k9, l2⟩
      have k2 := (k2.later l1).keepP l2 (by omega)
      have k5 := (k5.later l1).keepP l2 (by omega)
      have L2 : Lat w V2 := l2.narrow (L1.trans l1) (by omega)
      have hs3 : w.heap.size + 2 ≤ V2.heap.size := by have := l2.size; omega
      obtain ⟨g9, hg9⟩ : ∃ z, wr.heap.size = z := ⟨_, rfl⟩
      rw [hg9] at k9 ⊢
      obtain ⟨A', c', rfl, R, _, hA', _⟩ := O.form
      rw [upsW_length] at R ⊢
      clear l1 l2 L1 hs1 hs2 hg9 HSUM O
      have e9 : V2.cell? ⟨g9, 0, none⟩ = some (.int .i64 0) := k9.cell 0
      obtain ⟨m, rfl⟩ : ∃ m, j = m + 1 := ⟨j - 1, by omega⟩
      obtain ⟨g, o, xx, rfl, hgl, hx, _, hrg⟩ := R.at (i := m) (by omega)
      rw [ups_get S (by omega)] at hx
      cases hx
      have hrg : V2.rangeAt g (o + m * 8) [.int .u64 (S (m + 1)).a0, .int .u64 (S (m + 1)).a1, .int .u64 (S (m + 1)).a2, .int .u64 (S (m + 1)).a3, .int .u64 (S (m + 1)).a4, .int .u64 (S (m + 1)).a5, .int .u64 (S (m + 1)).a6, .int .u64 (S (m + 1)).a7] := hrg
      have hnb : (((m + 1 : Nat) : Int) == 0) = false := by simp; omega
      have em : wrap64 (((m + 1 : Nat) : Int) - 1) = (m : Int) := by rw [IntWalk.wrap64_in _ (by omega)]; omega
      have em2 : (((m + 1 : Nat) : Int) - 1) = (m : Int) := by omega
      have hmI : (m : Int) < ((m + 1 : Nat) : Int) := by omega
      have hm0 : (0 : Int) ≤ (m : Int) := by omega
      go_wp2_with (refine Go.BigFrame.wpList_want (by rfl) fun _ hK => wp_load_mid 44 (.tmp 45) (by rfl) g (o + m * 8) (by rfl) [.int .u64 (S (m + 1)).a0, .int .u64 (S (m + 1)).a1, .int .u64 (S (m + 1)).a2, .int .u64 (S (m + 1)).a3, .int .u64 (S (m + 1)).a4, .int .u64 (S (m + 1)).a5, .int .u64 (S (m + 1)).a6, .int .u64 (S (m + 1)).a7] _ hrg Try.underlying44 rfl (by kernel_rfl) (hK _ _ ?_))
      refine (HZ V2).mono ?_
      rintro e V4 ⟨rfl, l4⟩
      have k5 := k5.later l4
      have L4 := L2.trans l4
      clear R hrg k2 k9 e9 L2
      have c5 : V4.cell? ⟨w.heap.size + 1, 0, none⟩ = some (.int .u64 0) := k5.cell 0
      have f5 := k5.frozen 0
      have h5 := k5.lt
      go_wp2
      refine name_set (Q := fun W => bodyPost _ _ _ _ _ W) k5 ?_
      intro V3 j5 _ _ l5
      have c6 : V3.cell? ⟨w.heap.size + 1, 0, none⟩ = some (.int .u64 0) := j5.cell 0
      refine bodyPost_ret (v := .tuple #[.int .i64 0, .agg #[.int .u64 0], .int .i64 7]) (by simp [results, Try.results22, go_sem, c6]) rfl ?_
      exact ⟨rfl, l5.narrow L4 (by omega)⟩


set_option maxRecDepth 100000 in
set_option maxHeartbeats 8000000 in
theorem pick_ok (A : Option Addr) (n c s : Nat) (ws : List W8) (hn : n ≤ 400) (sg : Nat → Int) (HG : ∀ i x, ws[i]? = some x → ∀ w, Calls Try.prog 32 #[.agg #[.int .u64 x.a0, .int .u64 x.a1, .int .u64 x.a2, .int .u64 x.a3, .int .u64 x.a4, .int .u64 x.a5, .int .u64 x.a6, .int .u64 x.a7]] w (fun e w' => e = .returned (.int .i64 (sg i)) ∧ Lat w w')) (w : World) (hn0 : 0 < n) (S : Nat → W8) (HS0 : Hid (∀ i, i < n → 0 ≤ sg i)) (HSUM : ∀ g9 W, Lat w W → g9 < W.heap.size → w.heap.size ≤ g9 → Blk W g9 29 #[.int .i64 0] → Calls Try.prog 36 #[.slice A n c, .func (.func 37) #[] #[.pointer (some ⟨g9, 0, none⟩)]] W
      (fun e w' => ∃ v, e = .returned v ∧ OwnM w' W.heap.size 44 8 v (wRows (upsW S n)) ∧ Blk w' g9 29 #[.int .i64 0] ∧ LatP (· = g9) W w')) (q : Int) (hq : (q == 0) = false) (HZ : ∀ w, Calls Try.prog 32 #[.agg #[.int .u64 (S n).a0, .int .u64 (S n).a1, .int .u64 (S n).a2, .int .u64 (S n).a3, .int .u64 (S n).a4, .int .u64 (S n).a5, .int .u64 (S n).a6, .int .u64 (S n).a7]] w (fun e w' => e = .returned (.int .i64 q) ∧ Lat w w'))
    (xw : W8) (t : Nat) (HWD : ∀ W, Calls Try.prog 18 #[.agg #[.int .u64 s], .agg #[.int .u64 (S n).a0, .int .u64 (S n).a1, .int .u64 (S n).a2, .int .u64 (S n).a3, .int .u64 (S n).a4, .int .u64 (S n).a5, .int .u64 (S n).a6, .int .u64 (S n).a7]] W (WidEnd W xw t 0)) (K : Nat) (hK : K < n) (cc : Nat → Int)
    (HC : ∀ k, k ≤ K → ∀ w, Calls Try.prog 19 #[.agg #[.int .u64 (S (k + 1)).a0, .int .u64 (S (k + 1)).a1, .int .u64 (S (k + 1)).a2, .int .u64 (S (k + 1)).a3, .int .u64 (S (k + 1)).a4, .int .u64 (S (k + 1)).a5, .int .u64 (S (k + 1)).a6, .int .u64 (S (k + 1)).a7], .agg #[.int .u64 xw.a0, .int .u64 xw.a1, .int .u64 xw.a2, .int .u64 xw.a3, .int .u64 xw.a4, .int .u64 xw.a5, .int .u64 xw.a6, .int .u64 xw.a7]] w (fun e w' => e = .returned (.int .i64 (cc k)) ∧ Lat w w')) (hle : ∀ k, k < K → cc k ≤ 0) (hgt : 0 < cc K) (hr : RowM w A 8 n (wRows ws)) :
    Calls Try.prog 22 #[.agg #[.int .u64 s], .slice A n c] w (PickEnd w K t 0) := by
  have HCH := Lib.hid HC
  have HLE := Lib.hid hle
  have HGT := Lib.hid hgt
  clear HC hle hgt
  have HGH := Lib.hid HG
  clear HG
  have hn4 : ¬ (400 : Int) < (n : Int) := by omega
  go_enter Try.func22, Try.ntmps22
  go_upto_region 4 with (fail)
  refine name2 (Q := fun W => Code.wp _ _ _ _ W) ?_
  intro W hl hs k2 k5
  have R0 := hr.later hl
  clear hr
  go_loopw [21] (fun i wr => ∃ j : Nat, j ≤ n ∧ i = .int .i64 j ∧ Lat W wr) (fun i _ => n - (intOf i).toNat)
  case atStart => exact ⟨0, by omega, rfl, Lat.refl _⟩
  case round =>
    obtain ⟨j, hj, rfl, hlr⟩ := hrel
    by_cases hlt : j < n
    · obtain ⟨g, o, x, rfl, hgl2, hx, hxl, hrg⟩ := (R0.later hlr).at hlt
      obtain ⟨x, hxw, rfl⟩ := row_w hx
      have hrg : wr.rangeAt g (o + j * 8) [.int .u64 x.a0, .int .u64 x.a1, .int .u64 x.a2, .int .u64 x.a3, .int .u64 x.a4, .int .u64 x.a5, .int .u64 x.a6, .int .u64 x.a7] := hrg
      have HG1 := HGH.out j x hxw
      have hltI : (j : Int) < (n : Int) := by omega
      have b0 : (0 : Int) ≤ (j : Int) := by omega
      clear hx hxl hxw
      go_wp2_with (refine wpList_load_mid (by rfl) 44 (.tmp 23) (by rfl) g (o + j * 8) (by rfl) [.int .u64 x.a0, .int .u64 x.a1, .int .u64 x.a2, .int .u64 x.a3, .int .u64 x.a4, .int .u64 x.a5, .int .u64 x.a6, .int .u64 x.a7] _ hrg Try.underlying44 rfl (by kernel_rfl) ?_)
      refine name1 (Q := fun W => Calls _ _ _ W _) ?_
      intro V1 l1 hs1 k8
      refine (HG1 V1).mono ?_
      rintro e V2 ⟨rfl, l2⟩
      have LL := hlr.trans (l1.trans l2)
      clear l1 l2 hs1 k8 hrg HG1
      have hsg := HS0.out j hlt
      have hsd : decide (sg j < 0) = false := decide_eq_false (by omega)
      clear HS0
      go_wp2
      go_roundw
      case rel => exact ⟨j + 1, by omega, by go_num, LL⟩
      case measure => simp [intOf]; omega
    · obtain rfl : j = n := by omega
      clear hj hlt
      have k2 := k2.later hlr
      have k5 := k5.later hlr
      have L1 := hl.trans hlr
      have hs1 : w.heap.size + 2 ≤ wr.heap.size := by have := hlr.size; omega
      clear hlr hs R0
      go_wp2_with fail
      refine name1 (Q := fun W => Calls _ _ _ W _) ?_
      intro V1 l1 hs2 k9
      refine (HSUM wr.heap.size V1 (L1.trans l1) hs2 (by omega) k9).mono ?_
      rintro e V2 ⟨v, rfl, O, k9, l2⟩
      have k2 := (k2.later l1).keepP l2 (by omega)
      have k5 := (k5.later l1).keepP l2 (by omega)
      have L2 : Lat w V2 := l2.narrow (L1.trans l1) (by omega)
      have hs3 : w.heap.size + 2 ≤ V2.heap.size := by have := l2.size; omega
      obtain ⟨g9, hg9⟩ : ∃ z, wr.heap.size = z := ⟨_, rfl⟩
      rw [hg9] at k9 ⊢
      obtain ⟨A', c2, rfl, R, _, hA', _⟩ := O.form
      rw [upsW_length] at R ⊢
      clear l1 l2 L1 hs1 hs2 hg9 HSUM O
      have e9 : V2.cell? ⟨g9, 0, none⟩ = some (.int .i64 0) := k9.cell 0
      obtain ⟨m, rfl⟩ : ∃ m, j = m + 1 := ⟨j - 1, by omega⟩
      obtain ⟨g, o, xx, rfl, hgl, hx, _, hrg⟩ := R.at (i := m) (by omega)
      rw [ups_get S (by omega)] at hx
      cases hx
      have hrg : V2.rangeAt g (o + m * 8) [.int .u64 (S (m + 1)).a0, .int .u64 (S (m + 1)).a1, .int .u64 (S (m + 1)).a2, .int .u64 (S (m + 1)).a3, .int .u64 (S (m + 1)).a4, .int .u64 (S (m + 1)).a5, .int .u64 (S (m + 1)).a6, .int .u64 (S (m + 1)).a7] := hrg
      have hnb : (((m + 1 : Nat) : Int) == 0) = false := by simp; omega
      have em : wrap64 (((m + 1 : Nat) : Int) - 1) = (m : Int) := by rw [IntWalk.wrap64_in _ (by omega)]; omega
      have em2 : (((m + 1 : Nat) : Int) - 1) = (m : Int) := by omega
      have hmI : (m : Int) < ((m + 1 : Nat) : Int) := by omega
      have hm0 : (0 : Int) ≤ (m : Int) := by omega
      go_wp2_with (refine Go.BigFrame.wpList_want (by rfl) fun _ hK => wp_load_mid 44 (.tmp 45) (by rfl) g (o + m * 8) (by rfl) [.int .u64 (S (m + 1)).a0, .int .u64 (S (m + 1)).a1, .int .u64 (S (m + 1)).a2, .int .u64 (S (m + 1)).a3, .int .u64 (S (m + 1)).a4, .int .u64 (S (m + 1)).a5, .int .u64 (S (m + 1)).a6, .int .u64 (S (m + 1)).a7] _ hrg Try.underlying44 rfl (by kernel_rfl) (hK _ _ ?_))
      refine (HZ V2).mono ?_
      rintro e V4 ⟨rfl, l4⟩
      have k2 := k2.later l4
      have k5 := k5.later l4
      have R := R.later l4
      have hrg := rangeAt_later hrg hgl l4
      have hgl4 : g < V4.heap.size := Nat.lt_of_lt_of_le hgl l4.size
      have hs4 : w.heap.size + 2 ≤ V4.heap.size := Nat.le_trans hs3 l4.size
      have L4 := L2.trans l4
      clear l4 k9 e9 L2 hs3 hgl HZ
      go_upto_region 15 with (fail)
      rename_i KN hKN
      have TAIL : ∀ (a0 a1 a2 a3 a4 a6 a7 a8 a9 a14 a15 a16 a17 a18 a19 a20 a21 a22 a23 a24 a25 a26 a27 a28 a29 a30 a31 a32 a33 a34 a35 a36 a37 a38 a39 a40 a41 a42 a43 a44 a45 a46 a47 a48 a49 a50 a51 a52 a53 a54 a55 a56 a57 a58 a59 a60 a61 a62 a63 a64 a65 a66 a67 a68 a69 a70 a71 a72 a73 a74 a75 a76 a77 : Value) (g11 g12 : Nat) (V9 : World), Lat w V9 → w.heap.size + 2 ≤ g12 → Blk V9 g11 44 #[.int .u64 xw.a0, .int .u64 xw.a1, .int .u64 xw.a2, .int .u64 xw.a3, .int .u64 xw.a4, .int .u64 xw.a5, .int .u64 xw.a6, .int .u64 xw.a7] → Blk V9 g12 24 #[.int .u64 (t : Nat)] → Blk V9 (w.heap.size + 1) 24 #[.int .u64 0] → RowM V9 (some ⟨g, o, none⟩) 8 (m + 1) (wRows (upsW S (m + 1))) →
          KN { tmps := #[a0, a1, a2, a3, a4, .pointer (some ⟨w.heap.size + 1, 0, none⟩), a6, a7, a8, a9, .slice (some ⟨g, o, none⟩) (m + 1) c2, .pointer (some ⟨g11, 0, none⟩), .pointer (some ⟨g12, 0, none⟩), .int .i64 0, a14, a15, a16, a17, a18, a19, a20, a21, a22, a23, a24, a25, a26, a27, a28, a29, a30, a31, a32, a33, a34, a35, a36, a37, a38, a39, a40, a41, a42, a43, a44, a45, a46, a47, a48, a49, a50, a51, a52, a53, a54, a55, a56, a57, a58, a59, a60, a61, a62, a63, a64, a65, a66, a67, a68, a69, a70, a71, a72, a73, a74, a75, a76, a77], defers := [] } V9 := by
        clear HWD
        intro a0 a1 a2 a3 a4 a6 a7 a8 a9 a14 a15 a16 a17 a18 a19 a20 a21 a22 a23 a24 a25 a26 a27 a28 a29 a30 a31 a32 a33 a34 a35 a36 a37 a38 a39 a40 a41 a42 a43 a44 a45 a46 a47 a48 a49 a50 a51 a52 a53 a54 a55 a56 a57 a58 a59 a60 a61 a62 a63 a64 a65 a66 a67 a68 a69 a70 a71 a72 a73 a74 a75 a76 a77 g11 g12 V9 L9 h12 k11 k12 k5 R
        refine hKN _ _ ?_
        clear hKN
        go_wp2
        go_loopw [14] (fun kk wr => ∃ k : Nat, k ≤ K ∧ kk = .int .i64 k ∧ Lat V9 wr) (fun kk _ => K - (intOf kk).toNat)
        case atStart => exact ⟨0, by omega, rfl, Lat.refl _⟩
        case round =>
          obtain ⟨k, hk, rfl, hlr⟩ := hrel
          have RK : ∀ w', Lat wr w' → w'.rangeAt g (o + k * 8) [.int .u64 (S (k + 1)).a0, .int .u64 (S (k + 1)).a1, .int .u64 (S (k + 1)).a2, .int .u64 (S (k + 1)).a3, .int .u64 (S (k + 1)).a4, .int .u64 (S (k + 1)).a5, .int .u64 (S (k + 1)).a6, .int .u64 (S (k + 1)).a7] := fun w' h => by
            obtain ⟨g', o', x', e', _, hx', _, hr'⟩ := (R.later (hlr.trans h)).at (i := k) (by omega)
            cases e'
            rw [ups_get S (by omega)] at hx'
            cases hx'
            exact hr'
          have RX : ∀ w', Lat wr w' → w'.rangeAt g11 0 [.int .u64 xw.a0, .int .u64 xw.a1, .int .u64 xw.a2, .int .u64 xw.a3, .int .u64 xw.a4, .int .u64 xw.a5, .int .u64 xw.a6, .int .u64 xw.a7] := fun w' h => Blk.rangeAll (l := [.int .u64 xw.a0, .int .u64 xw.a1, .int .u64 xw.a2, .int .u64 xw.a3, .int .u64 xw.a4, .int .u64 xw.a5, .int .u64 xw.a6, .int .u64 xw.a7]) (k11.later (hlr.trans h))
          have HC1 := HCH.out k (by omega)
          have b0 : (0 : Int) ≤ (k : Int) := by omega
          have b1 : (k : Int) < (m : Int) + 1 := by omega
          have b2 : ¬ (m : Int) + 1 ≤ (k : Int) := by omega
          go_upto_region 19 with (fail)
          by_cases hlt : k < K
          · have hc := HLE.out k hlt
            have hcd : decide (cc k ≤ 0) = true := decide_eq_true hc
            have L0 := Lat.drew wr
            refine wp_region_held_drew (S := fun w' => Lat wr w') (by kernel_rfl) L0 (fun hHeld => ?_)
            generalize wr.drew = U0 at L0 hHeld ⊢
            refine wpAnyH_take (i := 0) (v := .slice (some ⟨g, o, none⟩) (m + 1) c2) rfl (by kernel_rfl) (by kernel_rfl) (by kernel_rfl) (fun _ _ _ h => h) (Or.inl ⟨by rfl, by intro w' hS; go_simp⟩) hHeld ?_
            simp only [Act.put, List.getElem_toArray, List.getElem_cons_succ, List.getElem_cons_zero, List.setIfInBounds_toArray, List.set_cons_zero, List.set_cons_succ]
            refine wpAnyH_take (i := 1) (v := .int .i64 (k : Int)) rfl (by kernel_rfl) (by kernel_rfl) (by kernel_rfl) (fun _ _ _ h => h) (Or.inl ⟨by rfl, by intro w' hS; go_simp⟩) hHeld ?_
            simp only [Act.put, List.getElem_toArray, List.getElem_cons_succ, List.getElem_cons_zero, List.setIfInBounds_toArray, List.set_cons_zero, List.set_cons_succ]
            refine wpAnyH_take (i := 2) (v := .pointer (some ⟨g, o + k * 8, none⟩)) rfl (by kernel_rfl) (by kernel_rfl) (by kernel_rfl) (fun _ _ _ h => h) (Or.inl ⟨by rfl, by intro w' hS; go_simp⟩) hHeld ?_
            simp only [Act.put, List.getElem_toArray, List.getElem_cons_succ, List.getElem_cons_zero, List.setIfInBounds_toArray, List.set_cons_zero, List.set_cons_succ]
            refine' wpAnyH_take (i := 3) rfl (by kernel_rfl) (by kernel_rfl) (by kernel_rfl) (fun _ _ _ h => h) (yieldsIf_load_mid (by rfl) 44 (.tmp 69) rfl g (o + k * 8) rfl [.int .u64 (S (k + 1)).a0, .int .u64 (S (k + 1)).a1, .int .u64 (S (k + 1)).a2, .int .u64 (S (k + 1)).a3, .int .u64 (S (k + 1)).a4, .int .u64 (S (k + 1)).a5, .int .u64 (S (k + 1)).a6, .int .u64 (S (k + 1)).a7] _ RK Try.underlying44 rfl wideInfo8) hHeld ?_
            simp only [Act.put, List.getElem_toArray, List.getElem_cons_succ, List.getElem_cons_zero, List.setIfInBounds_toArray, List.set_cons_zero, List.set_cons_succ]
            refine' wpAnyH_take (i := 4) rfl (by kernel_rfl) (by kernel_rfl) (by kernel_rfl) (fun _ _ _ h => h) (yieldsIf_load_mid (by rfl) 44 (.tmp 11) rfl g11 0 rfl [.int .u64 xw.a0, .int .u64 xw.a1, .int .u64 xw.a2, .int .u64 xw.a3, .int .u64 xw.a4, .int .u64 xw.a5, .int .u64 xw.a6, .int .u64 xw.a7] _ RX Try.underlying44 rfl wideInfo8) hHeld ?_
            simp only [Act.put, List.getElem_toArray, List.getElem_cons_succ, List.getElem_cons_zero, List.setIfInBounds_toArray, List.set_cons_zero, List.set_cons_succ]
            refine wpAnyH_ready (rs := [5]) (by kernel_rfl) (by simp) (AllReadyH.cons rfl (fun K hK => ?_) AllReadyH.nil)
            go_simp
            refine (HC1 _).mono ?_
            rintro e U1 ⟨rfl, lg⟩
            have LU := L0.trans lg
            clear lg
            refine hK.out _ _ LU (fun hHeld1 => ?_)
            clear hK K
            try simp only [Act.put, List.getElem_toArray, List.getElem_cons_succ, List.getElem_cons_zero, List.setIfInBounds_toArray, List.set_cons_zero, List.set_cons_succ]
            refine wpAnyH_take (i := 6) (v := .bool true) rfl (by kernel_rfl) (by kernel_rfl) (by kernel_rfl) (fun _ _ _ h => h) (Or.inl ⟨by rfl, by intro w' hS; go_simp⟩) hHeld1 ?_
            simp only [Act.put, List.getElem_toArray, List.getElem_cons_succ, List.getElem_cons_zero, List.setIfInBounds_toArray, List.set_cons_zero, List.set_cons_succ]
            refine wpAnyH_done (by kernel_rfl) ?_ _
            go_wp2
            go_roundw
            case rel => exact ⟨k + 1, by omega, by go_num, hlr.trans LU⟩
            case measure => simp [intOf]; omega
          · obtain rfl : k = K := by omega
            have hcd : decide (cc k ≤ 0) = false := decide_eq_false (by have := HGT.out; omega)
            have L0 := Lat.drew wr
            refine wp_region_held_drew (S := fun w' => Lat wr w') (by kernel_rfl) L0 (fun hHeld => ?_)
            generalize wr.drew = U0 at L0 hHeld ⊢
            refine wpAnyH_take (i := 0) (v := .slice (some ⟨g, o, none⟩) (m + 1) c2) rfl (by kernel_rfl) (by kernel_rfl) (by kernel_rfl) (fun _ _ _ h => h) (Or.inl ⟨by rfl, by intro w' hS; go_simp⟩) hHeld ?_
            simp only [Act.put, List.getElem_toArray, List.getElem_cons_succ, List.getElem_cons_zero, List.setIfInBounds_toArray, List.set_cons_zero, List.set_cons_succ]
            refine wpAnyH_take (i := 1) (v := .int .i64 (k : Int)) rfl (by kernel_rfl) (by kernel_rfl) (by kernel_rfl) (fun _ _ _ h => h) (Or.inl ⟨by rfl, by intro w' hS; go_simp⟩) hHeld ?_
            simp only [Act.put, List.getElem_toArray, List.getElem_cons_succ, List.getElem_cons_zero, List.setIfInBounds_toArray, List.set_cons_zero, List.set_cons_succ]
            refine wpAnyH_take (i := 2) (v := .pointer (some ⟨g, o + k * 8, none⟩)) rfl (by kernel_rfl) (by kernel_rfl) (by kernel_rfl) (fun _ _ _ h => h) (Or.inl ⟨by rfl, by intro w' hS; go_simp⟩) hHeld ?_
            simp only [Act.put, List.getElem_toArray, List.getElem_cons_succ, List.getElem_cons_zero, List.setIfInBounds_toArray, List.set_cons_zero, List.set_cons_succ]
            refine' wpAnyH_take (i := 3) rfl (by kernel_rfl) (by kernel_rfl) (by kernel_rfl) (fun _ _ _ h => h) (yieldsIf_load_mid (by rfl) 44 (.tmp 69) rfl g (o + k * 8) rfl [.int .u64 (S (k + 1)).a0, .int .u64 (S (k + 1)).a1, .int .u64 (S (k + 1)).a2, .int .u64 (S (k + 1)).a3, .int .u64 (S (k + 1)).a4, .int .u64 (S (k + 1)).a5, .int .u64 (S (k + 1)).a6, .int .u64 (S (k + 1)).a7] _ RK Try.underlying44 rfl wideInfo8) hHeld ?_
            simp only [Act.put, List.getElem_toArray, List.getElem_cons_succ, List.getElem_cons_zero, List.setIfInBounds_toArray, List.set_cons_zero, List.set_cons_succ]
            refine' wpAnyH_take (i := 4) rfl (by kernel_rfl) (by kernel_rfl) (by kernel_rfl) (fun _ _ _ h => h) (yieldsIf_load_mid (by rfl) 44 (.tmp 11) rfl g11 0 rfl [.int .u64 xw.a0, .int .u64 xw.a1, .int .u64 xw.a2, .int .u64 xw.a3, .int .u64 xw.a4, .int .u64 xw.a5, .int .u64 xw.a6, .int .u64 xw.a7] _ RX Try.underlying44 rfl wideInfo8) hHeld ?_
            simp only [Act.put, List.getElem_toArray, List.getElem_cons_succ, List.getElem_cons_zero, List.setIfInBounds_toArray, List.set_cons_zero, List.set_cons_succ]
            refine wpAnyH_ready (rs := [5]) (by kernel_rfl) (by simp) (AllReadyH.cons rfl (fun K hK => ?_) AllReadyH.nil)
            go_simp
            refine (HC1 _).mono ?_
            rintro e U1 ⟨rfl, lg⟩
            have LU := L0.trans lg
            clear lg
            refine hK.out _ _ LU (fun hHeld1 => ?_)
            clear hK K
            try simp only [Act.put, List.getElem_toArray, List.getElem_cons_succ, List.getElem_cons_zero, List.setIfInBounds_toArray, List.set_cons_zero, List.set_cons_succ]
            refine wpAnyH_take (i := 6) (v := .bool false) rfl (by kernel_rfl) (by kernel_rfl) (by kernel_rfl) (fun _ _ _ h => h) (Or.inl ⟨by rfl, by intro w' hS; go_simp⟩) hHeld1 ?_
            simp only [Act.put, List.getElem_toArray, List.getElem_cons_succ, List.getElem_cons_zero, List.setIfInBounds_toArray, List.set_cons_zero, List.set_cons_succ]
            refine wpAnyH_done (by kernel_rfl) ?_ _
            go_upto_region 21 with (fail)
            have L3 := Lat.drew U1
            have LT := L9.trans ((hlr.trans LU).trans L3)
            have K5 := ((k5.later (hlr.trans LU))).later L3
            have KT : ∀ w', LatS U1 [w.heap.size + 1] w' → w'.cell? ⟨g12, 0, none⟩ = some (.int .u64 (t : Int)) := fun w' h => ((k12.later (hlr.trans LU)).keepS (by simp; omega) h).cell 0
            refine wp_region_held_drew (S := fun w' => LatS U1 [w.heap.size + 1] w') (by kernel_rfl) (L3.s _) (fun hHeld => ?_)
            generalize U1.drew = U2 at L3 hHeld K5 LT ⊢
            refine wpAnyH_take (i := 0) (v := .int .i64 (k : Int)) rfl (by kernel_rfl) (by kernel_rfl) (by kernel_rfl) (fun _ _ _ h => h) (Or.inl ⟨by rfl, by intro w' hS; go_simp⟩) hHeld ?_
            simp only [Act.put, List.getElem_toArray, List.getElem_cons_succ, List.getElem_cons_zero, List.setIfInBounds_toArray, List.set_cons_zero, List.set_cons_succ]
            refine wpAnyH_take (i := 1) (v := .agg #[.int .u64 (t : Int)]) rfl (by kernel_rfl) (by kernel_rfl) (by kernel_rfl) (fun _ _ _ h => h) (Or.inl ⟨by rfl, by intro w' hS; have hc := KT w' hS; go_simp⟩) hHeld ?_
            simp only [Act.put, List.getElem_toArray, List.getElem_cons_succ, List.getElem_cons_zero, List.setIfInBounds_toArray, List.set_cons_zero, List.set_cons_succ]
            refine wpAnyH_take (i := 2) (v := .int .i64 (k : Int)) rfl (by kernel_rfl) (by kernel_rfl) (by kernel_rfl) (fun _ _ _ h => h) (Or.inl ⟨by rfl, by intro w' hS; go_simp⟩) hHeld ?_
            simp only [Act.put, List.getElem_toArray, List.getElem_cons_succ, List.getElem_cons_zero, List.setIfInBounds_toArray, List.set_cons_zero, List.set_cons_succ]
            refine wpAnyH_ready (rs := [3]) (by kernel_rfl) (by simp) (AllReadyH.cons rfl (fun K hK => ?_) AllReadyH.nil)
            rw [if_pos (by rfl)]
            refine wp_store_mid 24 (.tmp 5) (.tmp 77) rfl (w.heap.size + 1) 0 #[.int .u64 (t : Int)] rfl rfl (K5.thereAll _ rfl) (by kernel_rfl) (by simp [Value.oneCell']) ?_
            have KS := K5.setCells #[.int .u64 (t : Int)] rfl
            have M9 : LatS U1 [w.heap.size + 1] (U2.setCells (w.heap.size + 1) 0 (#[.int .u64 (t : Int)] : Array Value).toList) := LatS.setCells (by simp) _ _ _ (L3.s _)
            have LF : Lat w (U2.setCells (w.heap.size + 1) 0 (#[.int .u64 (t : Int)] : Array Value).toList) := Lat.setCells (by omega) _ _ _ LT
            obtain ⟨U3, hV9⟩ : ∃ V, U2.setCells (w.heap.size + 1) 0 (#[.int .u64 (t : Int)] : Array Value).toList = V := ⟨_, rfl⟩
            rw [hV9] at KS M9 LF ⊢
            clear hV9
            refine hK.out _ _ M9 (fun hHeld1 => ?_)
            clear hK K
            try simp only [Act.put, List.getElem_toArray, List.getElem_cons_succ, List.getElem_cons_zero, List.setIfInBounds_toArray, List.set_cons_zero, List.set_cons_succ]
            refine wpAnyH_ready (rs := [4]) (by kernel_rfl) (by simp) (AllReadyH.cons rfl (fun K hK => ?_) AllReadyH.nil)
            go_simp
            refine hK.out _ _ M9 (fun hHeld2 => ?_)
            clear hK K
            try simp only [Act.put, List.getElem_toArray, List.getElem_cons_succ, List.getElem_cons_zero, List.setIfInBounds_toArray, List.set_cons_zero, List.set_cons_succ]
            refine wpAnyH_done (by kernel_rfl) ?_ _
            go_wp2
            have c6 : U3.cell? ⟨w.heap.size + 1, 0, none⟩ = some (.int .u64 (t : Int)) := KS.cell 0
            refine bodyPost_ret (v := .tuple #[.int .i64 (k : Int), .agg #[.int .u64 (t : Int)], .int .i64 0]) (by simp [results, Try.results22, go_sem, c6]) rfl ?_
            exact ⟨rfl, LF⟩
      clear hKN
      have L5 := Lat.drew V4
      have RA : ∀ w', Lat V4 w' → w'.cell? ⟨w.heap.size, 0, none⟩ = some (.int .u64 (s : Int)) := fun w' h => (k2.later h).cell 0
      have RU : ∀ w', Lat V4 w' → w'.rangeAt g (o + m * 8) [.int .u64 (S (m + 1)).a0, .int .u64 (S (m + 1)).a1, .int .u64 (S (m + 1)).a2, .int .u64 (S (m + 1)).a3, .int .u64 (S (m + 1)).a4, .int .u64 (S (m + 1)).a5, .int .u64 (S (m + 1)).a6, .int .u64 (S (m + 1)).a7] := fun w' h => rangeAt_later hrg hgl4 h
      refine wp_region_held_drew (S := fun w' => Lat V4 w') (by kernel_rfl) L5 (fun hHeld => ?_)
      generalize V4.drew = V5 at L5 hHeld ⊢
      refine wpAnyH_take (i := 0) (v := .agg #[.int .u64 (s : Int)]) rfl (by kernel_rfl) (by kernel_rfl) (by kernel_rfl) (fun _ _ _ h => h) (Or.inl ⟨by rfl, by intro w' hS; have hc := RA w' hS; go_simp⟩) hHeld ?_
      simp only [Act.put, List.getElem_toArray, List.getElem_cons_succ, List.getElem_cons_zero, List.setIfInBounds_toArray, List.set_cons_zero, List.set_cons_succ]
      refine wpAnyH_take (i := 1) (v := .slice (some ⟨g, o, none⟩) (m + 1) c2) rfl (by kernel_rfl) (by kernel_rfl) (by kernel_rfl) (fun _ _ _ h => h) (Or.inl ⟨by rfl, by intro w' hS; go_simp⟩) hHeld ?_
      simp only [Act.put, List.getElem_toArray, List.getElem_cons_succ, List.getElem_cons_zero, List.setIfInBounds_toArray, List.set_cons_zero, List.set_cons_succ]
      refine wpAnyH_take (i := 2) (v := .slice (some ⟨g, o, none⟩) (m + 1) c2) rfl (by kernel_rfl) (by kernel_rfl) (by kernel_rfl) (fun _ _ _ h => h) (Or.inl ⟨by rfl, by intro w' hS; go_simp⟩) hHeld ?_
      simp only [Act.put, List.getElem_toArray, List.getElem_cons_succ, List.getElem_cons_zero, List.setIfInBounds_toArray, List.set_cons_zero, List.set_cons_succ]
      refine wpAnyH_take (i := 3) (v := .int .i64 ((m + 1 : Nat) : Int)) rfl (by kernel_rfl) (by kernel_rfl) (by kernel_rfl) (fun _ _ _ h => h) (Or.inl ⟨by rfl, by intro w' hS; go_simp⟩) hHeld ?_
      simp only [Act.put, List.getElem_toArray, List.getElem_cons_succ, List.getElem_cons_zero, List.setIfInBounds_toArray, List.set_cons_zero, List.set_cons_succ]
      refine wpAnyH_take (i := 4) (v := .int .i64 (m : Int)) rfl (by kernel_rfl) (by kernel_rfl) (by kernel_rfl) (fun _ _ _ h => h) (Or.inl ⟨by rfl, by intro w' hS; have q1 : wrap64 (m : Int) = (m : Int) := IntWalk.wrap64_in _ (by omega); have q2 : IntKind.i64.wrap (m : Int) = (m : Int) := (IntWalk.i64_left _).trans q1; have q3 : (m : Int) + 1 - 1 = (m : Int) := (by omega); go_simp⟩) hHeld ?_
      simp only [Act.put, List.getElem_toArray, List.getElem_cons_succ, List.getElem_cons_zero, List.setIfInBounds_toArray, List.set_cons_zero, List.set_cons_succ]
      refine wpAnyH_take (i := 5) (v := .pointer (some ⟨g, o + m * 8, none⟩)) rfl (by kernel_rfl) (by kernel_rfl) (by kernel_rfl) (fun _ _ _ h => h) (Or.inl ⟨by rfl, by intro w' hS; go_simp⟩) hHeld ?_
      simp only [Act.put, List.getElem_toArray, List.getElem_cons_succ, List.getElem_cons_zero, List.setIfInBounds_toArray, List.set_cons_zero, List.set_cons_succ]
      refine' wpAnyH_take (i := 6) rfl (by kernel_rfl) (by kernel_rfl) (by kernel_rfl) (fun _ _ _ h => h) (yieldsIf_load_mid (by rfl) 44 (.tmp 57) rfl g (o + m * 8) rfl [.int .u64 (S (m + 1)).a0, .int .u64 (S (m + 1)).a1, .int .u64 (S (m + 1)).a2, .int .u64 (S (m + 1)).a3, .int .u64 (S (m + 1)).a4, .int .u64 (S (m + 1)).a5, .int .u64 (S (m + 1)).a6, .int .u64 (S (m + 1)).a7] _ RU Try.underlying44 rfl wideInfo8) hHeld ?_
      simp only [Act.put, List.getElem_toArray, List.getElem_cons_succ, List.getElem_cons_zero, List.setIfInBounds_toArray, List.set_cons_zero, List.set_cons_succ]
      refine wpAnyH_ready (rs := [7, 12, 13]) (by kernel_rfl) (by simp) (AllReadyH.cons rfl (fun K hK => ?_) (AllReadyH.cons rfl (fun K hK => ?_) (AllReadyH.cons rfl (fun K hK => ?_) AllReadyH.nil)))
      · skip
        go_simp
        refine (HWD _).mono ?_
        rintro e V6 ⟨rfl, la⟩
        have L6 := L5.trans la
        refine hK.out _ _ L6 (fun hHeld1 => ?_)
        clear hK K
        try simp only [Act.put, List.getElem_toArray, List.getElem_cons_succ, List.getElem_cons_zero, List.setIfInBounds_toArray, List.set_cons_zero, List.set_cons_succ]
        clear la
        refine wpAnyH_take (i := 8) (v := .tuple #[.agg #[.int .u64 xw.a0, .int .u64 xw.a1, .int .u64 xw.a2, .int .u64 xw.a3, .int .u64 xw.a4, .int .u64 xw.a5, .int .u64 xw.a6, .int .u64 xw.a7], .agg #[.int .u64 (t : Int)], .int .i64 0]) rfl (by kernel_rfl) (by kernel_rfl) (by kernel_rfl) (fun _ _ _ h => h) (Or.inl ⟨by rfl, by intro w' hS; go_simp⟩) hHeld1 ?_
        simp only [Act.put, List.getElem_toArray, List.getElem_cons_succ, List.getElem_cons_zero, List.setIfInBounds_toArray, List.set_cons_zero, List.set_cons_succ]
        refine wpAnyH_take (i := 9) (v := .agg #[.int .u64 xw.a0, .int .u64 xw.a1, .int .u64 xw.a2, .int .u64 xw.a3, .int .u64 xw.a4, .int .u64 xw.a5, .int .u64 xw.a6, .int .u64 xw.a7]) rfl (by kernel_rfl) (by kernel_rfl) (by kernel_rfl) (fun _ _ _ h => h) (Or.inl ⟨by rfl, by intro w' hS; go_simp⟩) hHeld1 ?_
        simp only [Act.put, List.getElem_toArray, List.getElem_cons_succ, List.getElem_cons_zero, List.setIfInBounds_toArray, List.set_cons_zero, List.set_cons_succ]
        refine wpAnyH_take (i := 10) (v := .agg #[.int .u64 (t : Int)]) rfl (by kernel_rfl) (by kernel_rfl) (by kernel_rfl) (fun _ _ _ h => h) (Or.inl ⟨by rfl, by intro w' hS; go_simp⟩) hHeld1 ?_
        simp only [Act.put, List.getElem_toArray, List.getElem_cons_succ, List.getElem_cons_zero, List.setIfInBounds_toArray, List.set_cons_zero, List.set_cons_succ]
        refine wpAnyH_take (i := 11) (v := .int .i64 0) rfl (by kernel_rfl) (by kernel_rfl) (by kernel_rfl) (fun _ _ _ h => h) (Or.inl ⟨by rfl, by intro w' hS; go_simp⟩) hHeld1 ?_
        simp only [Act.put, List.getElem_toArray, List.getElem_cons_succ, List.getElem_cons_zero, List.setIfInBounds_toArray, List.set_cons_zero, List.set_cons_succ]
        refine wpAnyH_ready (rs := [12, 13]) (by kernel_rfl) (by simp) (AllReadyH.cons rfl (fun K hK => ?_) (AllReadyH.cons rfl (fun K hK => ?_) AllReadyH.nil))
        · skip
          go_simp
          have b11 := Blk.new V6 44 #[.int .u64 0, .int .u64 0, .int .u64 0, .int .u64 0, .int .u64 0, .int .u64 0, .int .u64 0, .int .u64 0]
          have hg11 : V4.heap.size ≤ V6.heap.size := L6.size
          have la := Lat.alloc V6 (.cells #[.int .u64 0, .int .u64 0, .int .u64 0, .int .u64 0, .int .u64 0, .int .u64 0, .int .u64 0, .int .u64 0] 44)
          obtain ⟨V7, hV⟩ : ∃ V, V6.alloc (.cells #[.int .u64 0, .int .u64 0, .int .u64 0, .int .u64 0, .int .u64 0, .int .u64 0, .int .u64 0, .int .u64 0] 44) = V := ⟨_, rfl⟩
          rw [hV] at b11 la ⊢
          clear hV
          generalize V6.heap.size = g11 at *
          have L7 := L6.trans la
          refine hK.out _ _ L7 (fun hHeld2 => ?_)
          clear hK K
          try simp only [Act.put, List.getElem_toArray, List.getElem_cons_succ, List.getElem_cons_zero, List.setIfInBounds_toArray, List.set_cons_zero, List.set_cons_succ]
          clear la
          refine wpAnyH_ready (rs := [13]) (by kernel_rfl) (by simp) (AllReadyH.cons rfl (fun K hK => ?_) AllReadyH.nil)
          go_simp
          have b12 := Blk.new V7 24 #[.int .u64 0]
          have hg12 : V4.heap.size ≤ V7.heap.size := L7.size
          have la := Lat.alloc V7 (.cells #[.int .u64 0] 24)
          obtain ⟨V8, hV⟩ : ∃ V, V7.alloc (.cells #[.int .u64 0] 24) = V := ⟨_, rfl⟩
          rw [hV] at b12 la ⊢
          clear hV
          have hne : g11 ≠ V7.heap.size := by have := b11.lt; omega
          generalize V7.heap.size = g12 at *
          have b11 := b11.later la
          have L8 := L7.trans la
          refine hK.out _ _ L8 (fun hHeld3 => ?_)
          clear hK K
          try simp only [Act.put, List.getElem_toArray, List.getElem_cons_succ, List.getElem_cons_zero, List.setIfInBounds_toArray, List.set_cons_zero, List.set_cons_succ]
          clear la
          refine wpAnyH_ready (rs := [14]) (by kernel_rfl) (by simp) (AllReadyH.cons rfl (fun K hK => ?_) AllReadyH.nil)
          rw [if_pos (by rfl)]
          refine wp_store_mid 44 (.tmp 11) (.tmp 60) rfl g11 0 #[.int .u64 xw.a0, .int .u64 xw.a1, .int .u64 xw.a2, .int .u64 xw.a3, .int .u64 xw.a4, .int .u64 xw.a5, .int .u64 xw.a6, .int .u64 xw.a7] rfl rfl (b11.thereAll _ rfl) (by kernel_rfl) (by simp [Value.oneCell']) ?_
          have KS := b11.setCells #[.int .u64 xw.a0, .int .u64 xw.a1, .int .u64 xw.a2, .int .u64 xw.a3, .int .u64 xw.a4, .int .u64 xw.a5, .int .u64 xw.a6, .int .u64 xw.a7] rfl
          have lpS : LatP (· = g11) V8 (V8.setCells g11 0 (#[.int .u64 xw.a0, .int .u64 xw.a1, .int .u64 xw.a2, .int .u64 xw.a3, .int .u64 xw.a4, .int .u64 xw.a5, .int .u64 xw.a6, .int .u64 xw.a7] : Array Value).toList) := LatP.setCells _ _ _
          have L20 : Lat V4 (V8.setCells g11 0 (#[.int .u64 xw.a0, .int .u64 xw.a1, .int .u64 xw.a2, .int .u64 xw.a3, .int .u64 xw.a4, .int .u64 xw.a5, .int .u64 xw.a6, .int .u64 xw.a7] : Array Value).toList) := Lat.setCells hg11 _ _ _ L8
          have K12 := b12.keepP lpS (by omega)
          obtain ⟨V20, hV9⟩ : ∃ V, V8.setCells g11 0 (#[.int .u64 xw.a0, .int .u64 xw.a1, .int .u64 xw.a2, .int .u64 xw.a3, .int .u64 xw.a4, .int .u64 xw.a5, .int .u64 xw.a6, .int .u64 xw.a7] : Array Value).toList = V := ⟨_, rfl⟩
          rw [hV9] at KS L20 K12 ⊢
          clear hV9 lpS
          refine hK.out _ _ L20 (fun hHeld4 => ?_)
          clear hK K
          try simp only [Act.put, List.getElem_toArray, List.getElem_cons_succ, List.getElem_cons_zero, List.setIfInBounds_toArray, List.set_cons_zero, List.set_cons_succ]
          refine wpAnyH_ready (rs := [15]) (by kernel_rfl) (by simp) (AllReadyH.cons rfl (fun K hK => ?_) AllReadyH.nil)
          rw [if_pos (by rfl)]
          refine wp_store_mid 24 (.tmp 12) (.tmp 61) rfl g12 0 #[.int .u64 (t : Int)] rfl rfl (K12.thereAll _ rfl) (by kernel_rfl) (by simp [Value.oneCell']) ?_
          have KT := K12.setCells #[.int .u64 (t : Int)] rfl
          have lpS : LatP (· = g12) V20 (V20.setCells g12 0 (#[.int .u64 (t : Int)] : Array Value).toList) := LatP.setCells _ _ _
          have L21 : Lat V4 (V20.setCells g12 0 (#[.int .u64 (t : Int)] : Array Value).toList) := Lat.setCells hg12 _ _ _ L20
          have K11 := KS.keepP lpS (by omega)
          obtain ⟨V21, hV9⟩ : ∃ V, V20.setCells g12 0 (#[.int .u64 (t : Int)] : Array Value).toList = V := ⟨_, rfl⟩
          rw [hV9] at KT L21 K11 ⊢
          clear hV9 lpS
          refine hK.out _ _ L21 (fun hHeld5 => ?_)
          clear hK K
          try simp only [Act.put, List.getElem_toArray, List.getElem_cons_succ, List.getElem_cons_zero, List.setIfInBounds_toArray, List.set_cons_zero, List.set_cons_succ]
          refine wpAnyH_ready (rs := [16]) (by kernel_rfl) (by simp) (AllReadyH.cons rfl (fun K hK => ?_) AllReadyH.nil)
          go_simp
          refine hK.out _ _ L21 (fun hHeld6 => ?_)
          clear hK K
          try simp only [Act.put, List.getElem_toArray, List.getElem_cons_succ, List.getElem_cons_zero, List.setIfInBounds_toArray, List.set_cons_zero, List.set_cons_succ]
          refine wpAnyH_done (by kernel_rfl) ?_ _
          exact TAIL _ _ _ _ _ _ _ _ _ _ _ _ _ _ _ _ _ _ _ _ _ _ _ _ _ _ _ _ _ _ _ _ _ _ _ _ _ _ _ _ _ _ _ _ _ _ _ _ _ _ _ _ _ _ _ _ _ _ _ _ _ _ _ _ _ _ _ _ _ _ _ _ _ g11 g12 V21 (L4.trans L21) (by omega) K11 KT (k5.later L21) (R.later L21)
        · skip
          go_simp
          have b12 := Blk.new V6 24 #[.int .u64 0]
          have hg12 : V4.heap.size ≤ V6.heap.size := L6.size
          have la := Lat.alloc V6 (.cells #[.int .u64 0] 24)
          obtain ⟨V7, hV⟩ : ∃ V, V6.alloc (.cells #[.int .u64 0] 24) = V := ⟨_, rfl⟩
          rw [hV] at b12 la ⊢
          clear hV
          generalize V6.heap.size = g12 at *
          have L7 := L6.trans la
          refine hK.out _ _ L7 (fun hHeld2 => ?_)
          clear hK K
          try simp only [Act.put, List.getElem_toArray, List.getElem_cons_succ, List.getElem_cons_zero, List.setIfInBounds_toArray, List.set_cons_zero, List.set_cons_succ]
          clear la
          refine wpAnyH_ready (rs := [12]) (by kernel_rfl) (by simp) (AllReadyH.cons rfl (fun K hK => ?_) AllReadyH.nil)
          go_simp
          have b11 := Blk.new V7 44 #[.int .u64 0, .int .u64 0, .int .u64 0, .int .u64 0, .int .u64 0, .int .u64 0, .int .u64 0, .int .u64 0]
          have hg11 : V4.heap.size ≤ V7.heap.size := L7.size
          have la := Lat.alloc V7 (.cells #[.int .u64 0, .int .u64 0, .int .u64 0, .int .u64 0, .int .u64 0, .int .u64 0, .int .u64 0, .int .u64 0] 44)
          obtain ⟨V8, hV⟩ : ∃ V, V7.alloc (.cells #[.int .u64 0, .int .u64 0, .int .u64 0, .int .u64 0, .int .u64 0, .int .u64 0, .int .u64 0, .int .u64 0] 44) = V := ⟨_, rfl⟩
          rw [hV] at b11 la ⊢
          clear hV
          have hne : g12 ≠ V7.heap.size := by have := b12.lt; omega
          generalize V7.heap.size = g11 at *
          have b12 := b12.later la
          have L8 := L7.trans la
          refine hK.out _ _ L8 (fun hHeld3 => ?_)
          clear hK K
          try simp only [Act.put, List.getElem_toArray, List.getElem_cons_succ, List.getElem_cons_zero, List.setIfInBounds_toArray, List.set_cons_zero, List.set_cons_succ]
          clear la
          refine wpAnyH_ready (rs := [14]) (by kernel_rfl) (by simp) (AllReadyH.cons rfl (fun K hK => ?_) AllReadyH.nil)
          rw [if_pos (by rfl)]
          refine wp_store_mid 44 (.tmp 11) (.tmp 60) rfl g11 0 #[.int .u64 xw.a0, .int .u64 xw.a1, .int .u64 xw.a2, .int .u64 xw.a3, .int .u64 xw.a4, .int .u64 xw.a5, .int .u64 xw.a6, .int .u64 xw.a7] rfl rfl (b11.thereAll _ rfl) (by kernel_rfl) (by simp [Value.oneCell']) ?_
          have KS := b11.setCells #[.int .u64 xw.a0, .int .u64 xw.a1, .int .u64 xw.a2, .int .u64 xw.a3, .int .u64 xw.a4, .int .u64 xw.a5, .int .u64 xw.a6, .int .u64 xw.a7] rfl
          have lpS : LatP (· = g11) V8 (V8.setCells g11 0 (#[.int .u64 xw.a0, .int .u64 xw.a1, .int .u64 xw.a2, .int .u64 xw.a3, .int .u64 xw.a4, .int .u64 xw.a5, .int .u64 xw.a6, .int .u64 xw.a7] : Array Value).toList) := LatP.setCells _ _ _
          have L20 : Lat V4 (V8.setCells g11 0 (#[.int .u64 xw.a0, .int .u64 xw.a1, .int .u64 xw.a2, .int .u64 xw.a3, .int .u64 xw.a4, .int .u64 xw.a5, .int .u64 xw.a6, .int .u64 xw.a7] : Array Value).toList) := Lat.setCells hg11 _ _ _ L8
          have K12 := b12.keepP lpS (by omega)
          obtain ⟨V20, hV9⟩ : ∃ V, V8.setCells g11 0 (#[.int .u64 xw.a0, .int .u64 xw.a1, .int .u64 xw.a2, .int .u64 xw.a3, .int .u64 xw.a4, .int .u64 xw.a5, .int .u64 xw.a6, .int .u64 xw.a7] : Array Value).toList = V := ⟨_, rfl⟩
          rw [hV9] at KS L20 K12 ⊢
          clear hV9 lpS
          refine hK.out _ _ L20 (fun hHeld4 => ?_)
          clear hK K
          try simp only [Act.put, List.getElem_toArray, List.getElem_cons_succ, List.getElem_cons_zero, List.setIfInBounds_toArray, List.set_cons_zero, List.set_cons_succ]
          refine wpAnyH_ready (rs := [15]) (by kernel_rfl) (by simp) (AllReadyH.cons rfl (fun K hK => ?_) AllReadyH.nil)
          rw [if_pos (by rfl)]
          refine wp_store_mid 24 (.tmp 12) (.tmp 61) rfl g12 0 #[.int .u64 (t : Int)] rfl rfl (K12.thereAll _ rfl) (by kernel_rfl) (by simp [Value.oneCell']) ?_
          have KT := K12.setCells #[.int .u64 (t : Int)] rfl
          have lpS : LatP (· = g12) V20 (V20.setCells g12 0 (#[.int .u64 (t : Int)] : Array Value).toList) := LatP.setCells _ _ _
          have L21 : Lat V4 (V20.setCells g12 0 (#[.int .u64 (t : Int)] : Array Value).toList) := Lat.setCells hg12 _ _ _ L20
          have K11 := KS.keepP lpS (by omega)
          obtain ⟨V21, hV9⟩ : ∃ V, V20.setCells g12 0 (#[.int .u64 (t : Int)] : Array Value).toList = V := ⟨_, rfl⟩
          rw [hV9] at KT L21 K11 ⊢
          clear hV9 lpS
          refine hK.out _ _ L21 (fun hHeld5 => ?_)
          clear hK K
          try simp only [Act.put, List.getElem_toArray, List.getElem_cons_succ, List.getElem_cons_zero, List.setIfInBounds_toArray, List.set_cons_zero, List.set_cons_succ]
          refine wpAnyH_ready (rs := [16]) (by kernel_rfl) (by simp) (AllReadyH.cons rfl (fun K hK => ?_) AllReadyH.nil)
          go_simp
          refine hK.out _ _ L21 (fun hHeld6 => ?_)
          clear hK K
          try simp only [Act.put, List.getElem_toArray, List.getElem_cons_succ, List.getElem_cons_zero, List.setIfInBounds_toArray, List.set_cons_zero, List.set_cons_succ]
          refine wpAnyH_done (by kernel_rfl) ?_ _
          exact TAIL _ _ _ _ _ _ _ _ _ _ _ _ _ _ _ _ _ _ _ _ _ _ _ _ _ _ _ _ _ _ _ _ _ _ _ _ _ _ _ _ _ _ _ _ _ _ _ _ _ _ _ _ _ _ _ _ _ _ _ _ _ _ _ _ _ _ _ _ _ _ _ _ _ g11 g12 V21 (L4.trans L21) (by omega) K11 KT (k5.later L21) (R.later L21)
      · skip
        go_simp
        have b11 := Blk.new V5 44 #[.int .u64 0, .int .u64 0, .int .u64 0, .int .u64 0, .int .u64 0, .int .u64 0, .int .u64 0, .int .u64 0]
        have hg11 : V4.heap.size ≤ V5.heap.size := L5.size
        have la := Lat.alloc V5 (.cells #[.int .u64 0, .int .u64 0, .int .u64 0, .int .u64 0, .int .u64 0, .int .u64 0, .int .u64 0, .int .u64 0] 44)
        obtain ⟨V6, hV⟩ : ∃ V, V5.alloc (.cells #[.int .u64 0, .int .u64 0, .int .u64 0, .int .u64 0, .int .u64 0, .int .u64 0, .int .u64 0, .int .u64 0] 44) = V := ⟨_, rfl⟩
        rw [hV] at b11 la ⊢
        clear hV
        generalize V5.heap.size = g11 at *
        have L6 := L5.trans la
        refine hK.out _ _ L6 (fun hHeld1 => ?_)
        clear hK K
        try simp only [Act.put, List.getElem_toArray, List.getElem_cons_succ, List.getElem_cons_zero, List.setIfInBounds_toArray, List.set_cons_zero, List.set_cons_succ]
        clear la
        refine wpAnyH_ready (rs := [7, 13]) (by kernel_rfl) (by simp) (AllReadyH.cons rfl (fun K hK => ?_) (AllReadyH.cons rfl (fun K hK => ?_) AllReadyH.nil))
        · skip
          go_simp
          refine (HWD _).mono ?_
          rintro e V7 ⟨rfl, la⟩
          have b11 := b11.later la
          have L7 := L6.trans la
          refine hK.out _ _ L7 (fun hHeld2 => ?_)
          clear hK K
          try simp only [Act.put, List.getElem_toArray, List.getElem_cons_succ, List.getElem_cons_zero, List.setIfInBounds_toArray, List.set_cons_zero, List.set_cons_succ]
          clear la
          refine wpAnyH_take (i := 8) (v := .tuple #[.agg #[.int .u64 xw.a0, .int .u64 xw.a1, .int .u64 xw.a2, .int .u64 xw.a3, .int .u64 xw.a4, .int .u64 xw.a5, .int .u64 xw.a6, .int .u64 xw.a7], .agg #[.int .u64 (t : Int)], .int .i64 0]) rfl (by kernel_rfl) (by kernel_rfl) (by kernel_rfl) (fun _ _ _ h => h) (Or.inl ⟨by rfl, by intro w' hS; go_simp⟩) hHeld2 ?_
          simp only [Act.put, List.getElem_toArray, List.getElem_cons_succ, List.getElem_cons_zero, List.setIfInBounds_toArray, List.set_cons_zero, List.set_cons_succ]
          refine wpAnyH_take (i := 9) (v := .agg #[.int .u64 xw.a0, .int .u64 xw.a1, .int .u64 xw.a2, .int .u64 xw.a3, .int .u64 xw.a4, .int .u64 xw.a5, .int .u64 xw.a6, .int .u64 xw.a7]) rfl (by kernel_rfl) (by kernel_rfl) (by kernel_rfl) (fun _ _ _ h => h) (Or.inl ⟨by rfl, by intro w' hS; go_simp⟩) hHeld2 ?_
          simp only [Act.put, List.getElem_toArray, List.getElem_cons_succ, List.getElem_cons_zero, List.setIfInBounds_toArray, List.set_cons_zero, List.set_cons_succ]
          refine wpAnyH_take (i := 10) (v := .agg #[.int .u64 (t : Int)]) rfl (by kernel_rfl) (by kernel_rfl) (by kernel_rfl) (fun _ _ _ h => h) (Or.inl ⟨by rfl, by intro w' hS; go_simp⟩) hHeld2 ?_
          simp only [Act.put, List.getElem_toArray, List.getElem_cons_succ, List.getElem_cons_zero, List.setIfInBounds_toArray, List.set_cons_zero, List.set_cons_succ]
          refine wpAnyH_take (i := 11) (v := .int .i64 0) rfl (by kernel_rfl) (by kernel_rfl) (by kernel_rfl) (fun _ _ _ h => h) (Or.inl ⟨by rfl, by intro w' hS; go_simp⟩) hHeld2 ?_
          simp only [Act.put, List.getElem_toArray, List.getElem_cons_succ, List.getElem_cons_zero, List.setIfInBounds_toArray, List.set_cons_zero, List.set_cons_succ]
          refine wpAnyH_ready (rs := [13]) (by kernel_rfl) (by simp) (AllReadyH.cons rfl (fun K hK => ?_) AllReadyH.nil)
          go_simp
          have b12 := Blk.new V7 24 #[.int .u64 0]
          have hg12 : V4.heap.size ≤ V7.heap.size := L7.size
          have la := Lat.alloc V7 (.cells #[.int .u64 0] 24)
          obtain ⟨V8, hV⟩ : ∃ V, V7.alloc (.cells #[.int .u64 0] 24) = V := ⟨_, rfl⟩
          rw [hV] at b12 la ⊢
          clear hV
          have hne : g11 ≠ V7.heap.size := by have := b11.lt; omega
          generalize V7.heap.size = g12 at *
          have b11 := b11.later la
          have L8 := L7.trans la
          refine hK.out _ _ L8 (fun hHeld3 => ?_)
          clear hK K
          try simp only [Act.put, List.getElem_toArray, List.getElem_cons_succ, List.getElem_cons_zero, List.setIfInBounds_toArray, List.set_cons_zero, List.set_cons_succ]
          clear la
          refine wpAnyH_ready (rs := [14]) (by kernel_rfl) (by simp) (AllReadyH.cons rfl (fun K hK => ?_) AllReadyH.nil)
          rw [if_pos (by rfl)]
          refine wp_store_mid 44 (.tmp 11) (.tmp 60) rfl g11 0 #[.int .u64 xw.a0, .int .u64 xw.a1, .int .u64 xw.a2, .int .u64 xw.a3, .int .u64 xw.a4, .int .u64 xw.a5, .int .u64 xw.a6, .int .u64 xw.a7] rfl rfl (b11.thereAll _ rfl) (by kernel_rfl) (by simp [Value.oneCell']) ?_
          have KS := b11.setCells #[.int .u64 xw.a0, .int .u64 xw.a1, .int .u64 xw.a2, .int .u64 xw.a3, .int .u64 xw.a4, .int .u64 xw.a5, .int .u64 xw.a6, .int .u64 xw.a7] rfl
          have lpS : LatP (· = g11) V8 (V8.setCells g11 0 (#[.int .u64 xw.a0, .int .u64 xw.a1, .int .u64 xw.a2, .int .u64 xw.a3, .int .u64 xw.a4, .int .u64 xw.a5, .int .u64 xw.a6, .int .u64 xw.a7] : Array Value).toList) := LatP.setCells _ _ _
          have L20 : Lat V4 (V8.setCells g11 0 (#[.int .u64 xw.a0, .int .u64 xw.a1, .int .u64 xw.a2, .int .u64 xw.a3, .int .u64 xw.a4, .int .u64 xw.a5, .int .u64 xw.a6, .int .u64 xw.a7] : Array Value).toList) := Lat.setCells hg11 _ _ _ L8
          have K12 := b12.keepP lpS (by omega)
          obtain ⟨V20, hV9⟩ : ∃ V, V8.setCells g11 0 (#[.int .u64 xw.a0, .int .u64 xw.a1, .int .u64 xw.a2, .int .u64 xw.a3, .int .u64 xw.a4, .int .u64 xw.a5, .int .u64 xw.a6, .int .u64 xw.a7] : Array Value).toList = V := ⟨_, rfl⟩
          rw [hV9] at KS L20 K12 ⊢
          clear hV9 lpS
          refine hK.out _ _ L20 (fun hHeld4 => ?_)
          clear hK K
          try simp only [Act.put, List.getElem_toArray, List.getElem_cons_succ, List.getElem_cons_zero, List.setIfInBounds_toArray, List.set_cons_zero, List.set_cons_succ]
          refine wpAnyH_ready (rs := [15]) (by kernel_rfl) (by simp) (AllReadyH.cons rfl (fun K hK => ?_) AllReadyH.nil)
          rw [if_pos (by rfl)]
          refine wp_store_mid 24 (.tmp 12) (.tmp 61) rfl g12 0 #[.int .u64 (t : Int)] rfl rfl (K12.thereAll _ rfl) (by kernel_rfl) (by simp [Value.oneCell']) ?_
          have KT := K12.setCells #[.int .u64 (t : Int)] rfl
          have lpS : LatP (· = g12) V20 (V20.setCells g12 0 (#[.int .u64 (t : Int)] : Array Value).toList) := LatP.setCells _ _ _
          have L21 : Lat V4 (V20.setCells g12 0 (#[.int .u64 (t : Int)] : Array Value).toList) := Lat.setCells hg12 _ _ _ L20
          have K11 := KS.keepP lpS (by omega)
          obtain ⟨V21, hV9⟩ : ∃ V, V20.setCells g12 0 (#[.int .u64 (t : Int)] : Array Value).toList = V := ⟨_, rfl⟩
          rw [hV9] at KT L21 K11 ⊢
          clear hV9 lpS
          refine hK.out _ _ L21 (fun hHeld5 => ?_)
          clear hK K
          try simp only [Act.put, List.getElem_toArray, List.getElem_cons_succ, List.getElem_cons_zero, List.setIfInBounds_toArray, List.set_cons_zero, List.set_cons_succ]
          refine wpAnyH_ready (rs := [16]) (by kernel_rfl) (by simp) (AllReadyH.cons rfl (fun K hK => ?_) AllReadyH.nil)
          go_simp
          refine hK.out _ _ L21 (fun hHeld6 => ?_)
          clear hK K
          try simp only [Act.put, List.getElem_toArray, List.getElem_cons_succ, List.getElem_cons_zero, List.setIfInBounds_toArray, List.set_cons_zero, List.set_cons_succ]
          refine wpAnyH_done (by kernel_rfl) ?_ _
          exact TAIL _ _ _ _ _ _ _ _ _ _ _ _ _ _ _ _ _ _ _ _ _ _ _ _ _ _ _ _ _ _ _ _ _ _ _ _ _ _ _ _ _ _ _ _ _ _ _ _ _ _ _ _ _ _ _ _ _ _ _ _ _ _ _ _ _ _ _ _ _ _ _ _ _ g11 g12 V21 (L4.trans L21) (by omega) K11 KT (k5.later L21) (R.later L21)
        · skip
          go_simp
          have b12 := Blk.new V6 24 #[.int .u64 0]
          have hg12 : V4.heap.size ≤ V6.heap.size := L6.size
          have la := Lat.alloc V6 (.cells #[.int .u64 0] 24)
          obtain ⟨V7, hV⟩ : ∃ V, V6.alloc (.cells #[.int .u64 0] 24) = V := ⟨_, rfl⟩
          rw [hV] at b12 la ⊢
          clear hV
          have hne : g11 ≠ V6.heap.size := by have := b11.lt; omega
          generalize V6.heap.size = g12 at *
          have b11 := b11.later la
          have L7 := L6.trans la
          refine hK.out _ _ L7 (fun hHeld2 => ?_)
          clear hK K
          try simp only [Act.put, List.getElem_toArray, List.getElem_cons_succ, List.getElem_cons_zero, List.setIfInBounds_toArray, List.set_cons_zero, List.set_cons_succ]
          clear la
          refine wpAnyH_ready (rs := [7]) (by kernel_rfl) (by simp) (AllReadyH.cons rfl (fun K hK => ?_) AllReadyH.nil)
          go_simp
          refine (HWD _).mono ?_
          rintro e V8 ⟨rfl, la⟩
          have b11 := b11.later la
          have b12 := b12.later la
          have L8 := L7.trans la
          refine hK.out _ _ L8 (fun hHeld3 => ?_)
          clear hK K
          try simp only [Act.put, List.getElem_toArray, List.getElem_cons_succ, List.getElem_cons_zero, List.setIfInBounds_toArray, List.set_cons_zero, List.set_cons_succ]
          clear la
          refine wpAnyH_take (i := 8) (v := .tuple #[.agg #[.int .u64 xw.a0, .int .u64 xw.a1, .int .u64 xw.a2, .int .u64 xw.a3, .int .u64 xw.a4, .int .u64 xw.a5, .int .u64 xw.a6, .int .u64 xw.a7], .agg #[.int .u64 (t : Int)], .int .i64 0]) rfl (by kernel_rfl) (by kernel_rfl) (by kernel_rfl) (fun _ _ _ h => h) (Or.inl ⟨by rfl, by intro w' hS; go_simp⟩) hHeld3 ?_
          simp only [Act.put, List.getElem_toArray, List.getElem_cons_succ, List.getElem_cons_zero, List.setIfInBounds_toArray, List.set_cons_zero, List.set_cons_succ]
          refine wpAnyH_take (i := 9) (v := .agg #[.int .u64 xw.a0, .int .u64 xw.a1, .int .u64 xw.a2, .int .u64 xw.a3, .int .u64 xw.a4, .int .u64 xw.a5, .int .u64 xw.a6, .int .u64 xw.a7]) rfl (by kernel_rfl) (by kernel_rfl) (by kernel_rfl) (fun _ _ _ h => h) (Or.inl ⟨by rfl, by intro w' hS; go_simp⟩) hHeld3 ?_
          simp only [Act.put, List.getElem_toArray, List.getElem_cons_succ, List.getElem_cons_zero, List.setIfInBounds_toArray, List.set_cons_zero, List.set_cons_succ]
          refine wpAnyH_take (i := 10) (v := .agg #[.int .u64 (t : Int)]) rfl (by kernel_rfl) (by kernel_rfl) (by kernel_rfl) (fun _ _ _ h => h) (Or.inl ⟨by rfl, by intro w' hS; go_simp⟩) hHeld3 ?_
          simp only [Act.put, List.getElem_toArray, List.getElem_cons_succ, List.getElem_cons_zero, List.setIfInBounds_toArray, List.set_cons_zero, List.set_cons_succ]
          refine wpAnyH_take (i := 11) (v := .int .i64 0) rfl (by kernel_rfl) (by kernel_rfl) (by kernel_rfl) (fun _ _ _ h => h) (Or.inl ⟨by rfl, by intro w' hS; go_simp⟩) hHeld3 ?_
          simp only [Act.put, List.getElem_toArray, List.getElem_cons_succ, List.getElem_cons_zero, List.setIfInBounds_toArray, List.set_cons_zero, List.set_cons_succ]
          refine wpAnyH_ready (rs := [14]) (by kernel_rfl) (by simp) (AllReadyH.cons rfl (fun K hK => ?_) AllReadyH.nil)
          rw [if_pos (by rfl)]
          refine wp_store_mid 44 (.tmp 11) (.tmp 60) rfl g11 0 #[.int .u64 xw.a0, .int .u64 xw.a1, .int .u64 xw.a2, .int .u64 xw.a3, .int .u64 xw.a4, .int .u64 xw.a5, .int .u64 xw.a6, .int .u64 xw.a7] rfl rfl (b11.thereAll _ rfl) (by kernel_rfl) (by simp [Value.oneCell']) ?_
          have KS := b11.setCells #[.int .u64 xw.a0, .int .u64 xw.a1, .int .u64 xw.a2, .int .u64 xw.a3, .int .u64 xw.a4, .int .u64 xw.a5, .int .u64 xw.a6, .int .u64 xw.a7] rfl
          have lpS : LatP (· = g11) V8 (V8.setCells g11 0 (#[.int .u64 xw.a0, .int .u64 xw.a1, .int .u64 xw.a2, .int .u64 xw.a3, .int .u64 xw.a4, .int .u64 xw.a5, .int .u64 xw.a6, .int .u64 xw.a7] : Array Value).toList) := LatP.setCells _ _ _
          have L20 : Lat V4 (V8.setCells g11 0 (#[.int .u64 xw.a0, .int .u64 xw.a1, .int .u64 xw.a2, .int .u64 xw.a3, .int .u64 xw.a4, .int .u64 xw.a5, .int .u64 xw.a6, .int .u64 xw.a7] : Array Value).toList) := Lat.setCells hg11 _ _ _ L8
          have K12 := b12.keepP lpS (by omega)
          obtain ⟨V20, hV9⟩ : ∃ V, V8.setCells g11 0 (#[.int .u64 xw.a0, .int .u64 xw.a1, .int .u64 xw.a2, .int .u64 xw.a3, .int .u64 xw.a4, .int .u64 xw.a5, .int .u64 xw.a6, .int .u64 xw.a7] : Array Value).toList = V := ⟨_, rfl⟩
          rw [hV9] at KS L20 K12 ⊢
          clear hV9 lpS
          refine hK.out _ _ L20 (fun hHeld4 => ?_)
          clear hK K
          try simp only [Act.put, List.getElem_toArray, List.getElem_cons_succ, List.getElem_cons_zero, List.setIfInBounds_toArray, List.set_cons_zero, List.set_cons_succ]
          refine wpAnyH_ready (rs := [15]) (by kernel_rfl) (by simp) (AllReadyH.cons rfl (fun K hK => ?_) AllReadyH.nil)
          rw [if_pos (by rfl)]
          refine wp_store_mid 24 (.tmp 12) (.tmp 61) rfl g12 0 #[.int .u64 (t : Int)] rfl rfl (K12.thereAll _ rfl) (by kernel_rfl) (by simp [Value.oneCell']) ?_
          have KT := K12.setCells #[.int .u64 (t : Int)] rfl
          have lpS : LatP (· = g12) V20 (V20.setCells g12 0 (#[.int .u64 (t : Int)] : Array Value).toList) := LatP.setCells _ _ _
          have L21 : Lat V4 (V20.setCells g12 0 (#[.int .u64 (t : Int)] : Array Value).toList) := Lat.setCells hg12 _ _ _ L20
          have K11 := KS.keepP lpS (by omega)
          obtain ⟨V21, hV9⟩ : ∃ V, V20.setCells g12 0 (#[.int .u64 (t : Int)] : Array Value).toList = V := ⟨_, rfl⟩
          rw [hV9] at KT L21 K11 ⊢
          clear hV9 lpS
          refine hK.out _ _ L21 (fun hHeld5 => ?_)
          clear hK K
          try simp only [Act.put, List.getElem_toArray, List.getElem_cons_succ, List.getElem_cons_zero, List.setIfInBounds_toArray, List.set_cons_zero, List.set_cons_succ]
          refine wpAnyH_ready (rs := [16]) (by kernel_rfl) (by simp) (AllReadyH.cons rfl (fun K hK => ?_) AllReadyH.nil)
          go_simp
          refine hK.out _ _ L21 (fun hHeld6 => ?_)
          clear hK K
          try simp only [Act.put, List.getElem_toArray, List.getElem_cons_succ, List.getElem_cons_zero, List.setIfInBounds_toArray, List.set_cons_zero, List.set_cons_succ]
          refine wpAnyH_done (by kernel_rfl) ?_ _
          exact TAIL _ _ _ _ _ _ _ _ _ _ _ _ _ _ _ _ _ _ _ _ _ _ _ _ _ _ _ _ _ _ _ _ _ _ _ _ _ _ _ _ _ _ _ _ _ _ _ _ _ _ _ _ _ _ _ _ _ _ _ _ _ _ _ _ _ _ _ _ _ _ _ _ _ g11 g12 V21 (L4.trans L21) (by omega) K11 KT (k5.later L21) (R.later L21)
      · skip
        go_simp
        have b12 := Blk.new V5 24 #[.int .u64 0]
        have hg12 : V4.heap.size ≤ V5.heap.size := L5.size
        have la := Lat.alloc V5 (.cells #[.int .u64 0] 24)
        obtain ⟨V6, hV⟩ : ∃ V, V5.alloc (.cells #[.int .u64 0] 24) = V := ⟨_, rfl⟩
        rw [hV] at b12 la ⊢
        clear hV
        generalize V5.heap.size = g12 at *
        have L6 := L5.trans la
        refine hK.out _ _ L6 (fun hHeld1 => ?_)
        clear hK K
        try simp only [Act.put, List.getElem_toArray, List.getElem_cons_succ, List.getElem_cons_zero, List.setIfInBounds_toArray, List.set_cons_zero, List.set_cons_succ]
        clear la
        refine wpAnyH_ready (rs := [7, 12]) (by kernel_rfl) (by simp) (AllReadyH.cons rfl (fun K hK => ?_) (AllReadyH.cons rfl (fun K hK => ?_) AllReadyH.nil))
        · skip
          go_simp
          refine (HWD _).mono ?_
          rintro e V7 ⟨rfl, la⟩
          have b12 := b12.later la
          have L7 := L6.trans la
          refine hK.out _ _ L7 (fun hHeld2 => ?_)
          clear hK K
          try simp only [Act.put, List.getElem_toArray, List.getElem_cons_succ, List.getElem_cons_zero, List.setIfInBounds_toArray, List.set_cons_zero, List.set_cons_succ]
          clear la
          refine wpAnyH_take (i := 8) (v := .tuple #[.agg #[.int .u64 xw.a0, .int .u64 xw.a1, .int .u64 xw.a2, .int .u64 xw.a3, .int .u64 xw.a4, .int .u64 xw.a5, .int .u64 xw.a6, .int .u64 xw.a7], .agg #[.int .u64 (t : Int)], .int .i64 0]) rfl (by kernel_rfl) (by kernel_rfl) (by kernel_rfl) (fun _ _ _ h => h) (Or.inl ⟨by rfl, by intro w' hS; go_simp⟩) hHeld2 ?_
          simp only [Act.put, List.getElem_toArray, List.getElem_cons_succ, List.getElem_cons_zero, List.setIfInBounds_toArray, List.set_cons_zero, List.set_cons_succ]
          refine wpAnyH_take (i := 9) (v := .agg #[.int .u64 xw.a0, .int .u64 xw.a1, .int .u64 xw.a2, .int .u64 xw.a3, .int .u64 xw.a4, .int .u64 xw.a5, .int .u64 xw.a6, .int .u64 xw.a7]) rfl (by kernel_rfl) (by kernel_rfl) (by kernel_rfl) (fun _ _ _ h => h) (Or.inl ⟨by rfl, by intro w' hS; go_simp⟩) hHeld2 ?_
          simp only [Act.put, List.getElem_toArray, List.getElem_cons_succ, List.getElem_cons_zero, List.setIfInBounds_toArray, List.set_cons_zero, List.set_cons_succ]
          refine wpAnyH_take (i := 10) (v := .agg #[.int .u64 (t : Int)]) rfl (by kernel_rfl) (by kernel_rfl) (by kernel_rfl) (fun _ _ _ h => h) (Or.inl ⟨by rfl, by intro w' hS; go_simp⟩) hHeld2 ?_
          simp only [Act.put, List.getElem_toArray, List.getElem_cons_succ, List.getElem_cons_zero, List.setIfInBounds_toArray, List.set_cons_zero, List.set_cons_succ]
          refine wpAnyH_take (i := 11) (v := .int .i64 0) rfl (by kernel_rfl) (by kernel_rfl) (by kernel_rfl) (fun _ _ _ h => h) (Or.inl ⟨by rfl, by intro w' hS; go_simp⟩) hHeld2 ?_
          simp only [Act.put, List.getElem_toArray, List.getElem_cons_succ, List.getElem_cons_zero, List.setIfInBounds_toArray, List.set_cons_zero, List.set_cons_succ]
          refine wpAnyH_ready (rs := [12]) (by kernel_rfl) (by simp) (AllReadyH.cons rfl (fun K hK => ?_) AllReadyH.nil)
          go_simp
          have b11 := Blk.new V7 44 #[.int .u64 0, .int .u64 0, .int .u64 0, .int .u64 0, .int .u64 0, .int .u64 0, .int .u64 0, .int .u64 0]
          have hg11 : V4.heap.size ≤ V7.heap.size := L7.size
          have la := Lat.alloc V7 (.cells #[.int .u64 0, .int .u64 0, .int .u64 0, .int .u64 0, .int .u64 0, .int .u64 0, .int .u64 0, .int .u64 0] 44)
          obtain ⟨V8, hV⟩ : ∃ V, V7.alloc (.cells #[.int .u64 0, .int .u64 0, .int .u64 0, .int .u64 0, .int .u64 0, .int .u64 0, .int .u64 0, .int .u64 0] 44) = V := ⟨_, rfl⟩
          rw [hV] at b11 la ⊢
          clear hV
          have hne : g12 ≠ V7.heap.size := by have := b12.lt; omega
          generalize V7.heap.size = g11 at *
          have b12 := b12.later la
          have L8 := L7.trans la
          refine hK.out _ _ L8 (fun hHeld3 => ?_)
          clear hK K
          try simp only [Act.put, List.getElem_toArray, List.getElem_cons_succ, List.getElem_cons_zero, List.setIfInBounds_toArray, List.set_cons_zero, List.set_cons_succ]
          clear la
          refine wpAnyH_ready (rs := [14]) (by kernel_rfl) (by simp) (AllReadyH.cons rfl (fun K hK => ?_) AllReadyH.nil)
          rw [if_pos (by rfl)]
          refine wp_store_mid 44 (.tmp 11) (.tmp 60) rfl g11 0 #[.int .u64 xw.a0, .int .u64 xw.a1, .int .u64 xw.a2, .int .u64 xw.a3, .int .u64 xw.a4, .int .u64 xw.a5, .int .u64 xw.a6, .int .u64 xw.a7] rfl rfl (b11.thereAll _ rfl) (by kernel_rfl) (by simp [Value.oneCell']) ?_
          have KS := b11.setCells #[.int .u64 xw.a0, .int .u64 xw.a1, .int .u64 xw.a2, .int .u64 xw.a3, .int .u64 xw.a4, .int .u64 xw.a5, .int .u64 xw.a6, .int .u64 xw.a7] rfl
          have lpS : LatP (· = g11) V8 (V8.setCells g11 0 (#[.int .u64 xw.a0, .int .u64 xw.a1, .int .u64 xw.a2, .int .u64 xw.a3, .int .u64 xw.a4, .int .u64 xw.a5, .int .u64 xw.a6, .int .u64 xw.a7] : Array Value).toList) := LatP.setCells _ _ _
          have L20 : Lat V4 (V8.setCells g11 0 (#[.int .u64 xw.a0, .int .u64 xw.a1, .int .u64 xw.a2, .int .u64 xw.a3, .int .u64 xw.a4, .int .u64 xw.a5, .int .u64 xw.a6, .int .u64 xw.a7] : Array Value).toList) := Lat.setCells hg11 _ _ _ L8
          have K12 := b12.keepP lpS (by omega)
          obtain ⟨V20, hV9⟩ : ∃ V, V8.setCells g11 0 (#[.int .u64 xw.a0, .int .u64 xw.a1, .int .u64 xw.a2, .int .u64 xw.a3, .int .u64 xw.a4, .int .u64 xw.a5, .int .u64 xw.a6, .int .u64 xw.a7] : Array Value).toList = V := ⟨_, rfl⟩
          rw [hV9] at KS L20 K12 ⊢
          clear hV9 lpS
          refine hK.out _ _ L20 (fun hHeld4 => ?_)
          clear hK K
          try simp only [Act.put, List.getElem_toArray, List.getElem_cons_succ, List.getElem_cons_zero, List.setIfInBounds_toArray, List.set_cons_zero, List.set_cons_succ]
          refine wpAnyH_ready (rs := [15]) (by kernel_rfl) (by simp) (AllReadyH.cons rfl (fun K hK => ?_) AllReadyH.nil)
          rw [if_pos (by rfl)]
          refine wp_store_mid 24 (.tmp 12) (.tmp 61) rfl g12 0 #[.int .u64 (t : Int)] rfl rfl (K12.thereAll _ rfl) (by kernel_rfl) (by simp [Value.oneCell']) ?_
          have KT := K12.setCells #[.int .u64 (t : Int)] rfl
          have lpS : LatP (· = g12) V20 (V20.setCells g12 0 (#[.int .u64 (t : Int)] : Array Value).toList) := LatP.setCells _ _ _
          have L21 : Lat V4 (V20.setCells g12 0 (#[.int .u64 (t : Int)] : Array Value).toList) := Lat.setCells hg12 _ _ _ L20
          have K11 := KS.keepP lpS (by omega)
          obtain ⟨V21, hV9⟩ : ∃ V, V20.setCells g12 0 (#[.int .u64 (t : Int)] : Array Value).toList = V := ⟨_, rfl⟩
          rw [hV9] at KT L21 K11 ⊢
          clear hV9 lpS
          refine hK.out _ _ L21 (fun hHeld5 => ?_)
          clear hK K
          try simp only [Act.put, List.getElem_toArray, List.getElem_cons_succ, List.getElem_cons_zero, List.setIfInBounds_toArray, List.set_cons_zero, List.set_cons_succ]
          refine wpAnyH_ready (rs := [16]) (by kernel_rfl) (by simp) (AllReadyH.cons rfl (fun K hK => ?_) AllReadyH.nil)
          go_simp
          refine hK.out _ _ L21 (fun hHeld6 => ?_)
          clear hK K
          try simp only [Act.put, List.getElem_toArray, List.getElem_cons_succ, List.getElem_cons_zero, List.setIfInBounds_toArray, List.set_cons_zero, List.set_cons_succ]
          refine wpAnyH_done (by kernel_rfl) ?_ _
          exact TAIL _ _ _ _ _ _ _ _ _ _ _ _ _ _ _ _ _ _ _ _ _ _ _ _ _ _ _ _ _ _ _ _ _ _ _ _ _ _ _ _ _ _ _ _ _ _ _ _ _ _ _ _ _ _ _ _ _ _ _ _ _ _ _ _ _ _ _ _ _ _ _ _ _ g11 g12 V21 (L4.trans L21) (by omega) K11 KT (k5.later L21) (R.later L21)
        · skip
          go_simp
          have b11 := Blk.new V6 44 #[.int .u64 0, .int .u64 0, .int .u64 0, .int .u64 0, .int .u64 0, .int .u64 0, .int .u64 0, .int .u64 0]
          have hg11 : V4.heap.size ≤ V6.heap.size := L6.size
          have la := Lat.alloc V6 (.cells #[.int .u64 0, .int .u64 0, .int .u64 0, .int .u64 0, .int .u64 0, .int .u64 0, .int .u64 0, .int .u64 0] 44)
          obtain ⟨V7, hV⟩ : ∃ V, V6.alloc (.cells #[.int .u64 0, .int .u64 0, .int .u64 0, .int .u64 0, .int .u64 0, .int .u64 0, .int .u64 0, .int .u64 0] 44) = V := ⟨_, rfl⟩
          rw [hV] at b11 la ⊢
          clear hV
          have hne : g12 ≠ V6.heap.size := by have := b12.lt; omega
          generalize V6.heap.size = g11 at *
          have b12 := b12.later la
          have L7 := L6.trans la
          refine hK.out _ _ L7 (fun hHeld2 => ?_)
          clear hK K
          try simp only [Act.put, List.getElem_toArray, List.getElem_cons_succ, List.getElem_cons_zero, List.setIfInBounds_toArray, List.set_cons_zero, List.set_cons_succ]
          clear la
          refine wpAnyH_ready (rs := [7]) (by kernel_rfl) (by simp) (AllReadyH.cons rfl (fun K hK => ?_) AllReadyH.nil)
          go_simp
          refine (HWD _).mono ?_
          rintro e V8 ⟨rfl, la⟩
          have b11 := b11.later la
          have b12 := b12.later la
          have L8 := L7.trans la
          refine hK.out _ _ L8 (fun hHeld3 => ?_)
          clear hK K
          try simp only [Act.put, List.getElem_toArray, List.getElem_cons_succ, List.getElem_cons_zero, List.setIfInBounds_toArray, List.set_cons_zero, List.set_cons_succ]
          clear la
          refine wpAnyH_take (i := 8) (v := .tuple #[.agg #[.int .u64 xw.a0, .int .u64 xw.a1, .int .u64 xw.a2, .int .u64 xw.a3, .int .u64 xw.a4, .int .u64 xw.a5, .int .u64 xw.a6, .int .u64 xw.a7], .agg #[.int .u64 (t : Int)], .int .i64 0]) rfl (by kernel_rfl) (by kernel_rfl) (by kernel_rfl) (fun _ _ _ h => h) (Or.inl ⟨by rfl, by intro w' hS; go_simp⟩) hHeld3 ?_
          simp only [Act.put, List.getElem_toArray, List.getElem_cons_succ, List.getElem_cons_zero, List.setIfInBounds_toArray, List.set_cons_zero, List.set_cons_succ]
          refine wpAnyH_take (i := 9) (v := .agg #[.int .u64 xw.a0, .int .u64 xw.a1, .int .u64 xw.a2, .int .u64 xw.a3, .int .u64 xw.a4, .int .u64 xw.a5, .int .u64 xw.a6, .int .u64 xw.a7]) rfl (by kernel_rfl) (by kernel_rfl) (by kernel_rfl) (fun _ _ _ h => h) (Or.inl ⟨by rfl, by intro w' hS; go_simp⟩) hHeld3 ?_
          simp only [Act.put, List.getElem_toArray, List.getElem_cons_succ, List.getElem_cons_zero, List.setIfInBounds_toArray, List.set_cons_zero, List.set_cons_succ]
          refine wpAnyH_take (i := 10) (v := .agg #[.int .u64 (t : Int)]) rfl (by kernel_rfl) (by kernel_rfl) (by kernel_rfl) (fun _ _ _ h => h) (Or.inl ⟨by rfl, by intro w' hS; go_simp⟩) hHeld3 ?_
          simp only [Act.put, List.getElem_toArray, List.getElem_cons_succ, List.getElem_cons_zero, List.setIfInBounds_toArray, List.set_cons_zero, List.set_cons_succ]
          refine wpAnyH_take (i := 11) (v := .int .i64 0) rfl (by kernel_rfl) (by kernel_rfl) (by kernel_rfl) (fun _ _ _ h => h) (Or.inl ⟨by rfl, by intro w' hS; go_simp⟩) hHeld3 ?_
          simp only [Act.put, List.getElem_toArray, List.getElem_cons_succ, List.getElem_cons_zero, List.setIfInBounds_toArray, List.set_cons_zero, List.set_cons_succ]
          refine wpAnyH_ready (rs := [14]) (by kernel_rfl) (by simp) (AllReadyH.cons rfl (fun K hK => ?_) AllReadyH.nil)
          rw [if_pos (by rfl)]
          refine wp_store_mid 44 (.tmp 11) (.tmp 60) rfl g11 0 #[.int .u64 xw.a0, .int .u64 xw.a1, .int .u64 xw.a2, .int .u64 xw.a3, .int .u64 xw.a4, .int .u64 xw.a5, .int .u64 xw.a6, .int .u64 xw.a7] rfl rfl (b11.thereAll _ rfl) (by kernel_rfl) (by simp [Value.oneCell']) ?_
          have KS := b11.setCells #[.int .u64 xw.a0, .int .u64 xw.a1, .int .u64 xw.a2, .int .u64 xw.a3, .int .u64 xw.a4, .int .u64 xw.a5, .int .u64 xw.a6, .int .u64 xw.a7] rfl
          have lpS : LatP (· = g11) V8 (V8.setCells g11 0 (#[.int .u64 xw.a0, .int .u64 xw.a1, .int .u64 xw.a2, .int .u64 xw.a3, .int .u64 xw.a4, .int .u64 xw.a5, .int .u64 xw.a6, .int .u64 xw.a7] : Array Value).toList) := LatP.setCells _ _ _
          have L20 : Lat V4 (V8.setCells g11 0 (#[.int .u64 xw.a0, .int .u64 xw.a1, .int .u64 xw.a2, .int .u64 xw.a3, .int .u64 xw.a4, .int .u64 xw.a5, .int .u64 xw.a6, .int .u64 xw.a7] : Array Value).toList) := Lat.setCells hg11 _ _ _ L8
          have K12 := b12.keepP lpS (by omega)
          obtain ⟨V20, hV9⟩ : ∃ V, V8.setCells g11 0 (#[.int .u64 xw.a0, .int .u64 xw.a1, .int .u64 xw.a2, .int .u64 xw.a3, .int .u64 xw.a4, .int .u64 xw.a5, .int .u64 xw.a6, .int .u64 xw.a7] : Array Value).toList = V := ⟨_, rfl⟩
          rw [hV9] at KS L20 K12 ⊢
          clear hV9 lpS
          refine hK.out _ _ L20 (fun hHeld4 => ?_)
          clear hK K
          try simp only [Act.put, List.getElem_toArray, List.getElem_cons_succ, List.getElem_cons_zero, List.setIfInBounds_toArray, List.set_cons_zero, List.set_cons_succ]
          refine wpAnyH_ready (rs := [15]) (by kernel_rfl) (by simp) (AllReadyH.cons rfl (fun K hK => ?_) AllReadyH.nil)
          rw [if_pos (by rfl)]
          refine wp_store_mid 24 (.tmp 12) (.tmp 61) rfl g12 0 #[.int .u64 (t : Int)] rfl rfl (K12.thereAll _ rfl) (by kernel_rfl) (by simp [Value.oneCell']) ?_
          have KT := K12.setCells #[.int .u64 (t : Int)] rfl
          have lpS : LatP (· = g12) V20 (V20.setCells g12 0 (#[.int .u64 (t : Int)] : Array Value).toList) := LatP.setCells _ _ _
          have L21 : Lat V4 (V20.setCells g12 0 (#[.int .u64 (t : Int)] : Array Value).toList) := Lat.setCells hg12 _ _ _ L20
          have K11 := KS.keepP lpS (by omega)
          obtain ⟨V21, hV9⟩ : ∃ V, V20.setCells g12 0 (#[.int .u64 (t : Int)] : Array Value).toList = V := ⟨_, rfl⟩
          rw [hV9] at KT L21 K11 ⊢
          clear hV9 lpS
          refine hK.out _ _ L21 (fun hHeld5 => ?_)
          clear hK K
          try simp only [Act.put, List.getElem_toArray, List.getElem_cons_succ, List.getElem_cons_zero, List.setIfInBounds_toArray, List.set_cons_zero, List.set_cons_succ]
          refine wpAnyH_ready (rs := [16]) (by kernel_rfl) (by simp) (AllReadyH.cons rfl (fun K hK => ?_) AllReadyH.nil)
          go_simp
          refine hK.out _ _ L21 (fun hHeld6 => ?_)
          clear hK K
          try simp only [Act.put, List.getElem_toArray, List.getElem_cons_succ, List.getElem_cons_zero, List.setIfInBounds_toArray, List.set_cons_zero, List.set_cons_succ]
          refine wpAnyH_done (by kernel_rfl) ?_ _
          exact TAIL _ _ _ _ _ _ _ _ _ _ _ _ _ _ _ _ _ _ _ _ _ _ _ _ _ _ _ _ _ _ _ _ _ _ _ _ _ _ _ _ _ _ _ _ _ _ _ _ _ _ _ _ _ _ _ _ _ _ _ _ _ _ _ _ _ _ _ _ _ _ _ _ _ g11 g12 V21 (L4.trans L21) (by omega) K11 KT (k5.later L21) (R.later L21)

end Go.Proofs.Ytogkkhaepfablaa
