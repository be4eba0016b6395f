
/- Chance: Pick of too many weights, and of weights whose sum is too great (printed by gen_pkb.py). -/
import Derived.Test.YtogkkhaepfablaaK37
namespace Go.Proofs.Ytogkkhaepfablaa
open Go.RowKit Go.Shelf
set_option linter.unusedSimpArgs false
set_option linter.unusedVariables false

set_option maxRecDepth 100000 in
set_option maxHeartbeats 8000000 in
theorem pick_over (A : Option Addr) (n c s : Nat) (ws : List W8) (hn : n ≤ 400) (sg : Nat → Int) (HG : ∀ i x, ws[i]? = some x → ∀ w, Calls Try.prog 32 #[.agg #[.int .u64 x.a0, .int .u64 x.a1, .int .u64 x.a2, .int .u64 x.a3, .int .u64 x.a4, .int .u64 x.a5, .int .u64 x.a6, .int .u64 x.a7]] w (fun e w' => e = .returned (.int .i64 (sg i)) ∧ Lat w w')) (w : World) (S : Nat → W8) (HS0 : Hid (∀ i, i < n → 0 ≤ sg i)) (HSUM : ∀ g9 W, Lat w W → g9 < W.heap.size → w.heap.size ≤ g9 → Blk W g9 29 #[.int .i64 0] → Calls Try.prog 36 #[.slice A n c, .func (.func 37) #[] #[.pointer (some ⟨g9, 0, none⟩)]] W
      (fun e w' => ∃ v, e = .returned v ∧ OwnM w' W.heap.size 44 8 v (wRows (upsW S n)) ∧ Blk w' g9 29 #[.int .i64 6] ∧ LatP (· = g9) W w')) (hr : RowM w A 8 n (wRows ws)) :
    Calls Try.prog 22 #[.agg #[.int .u64 s], .slice A n c] w (PickEnd w 0 0 6) := by
  have HGH := Lib.hid HG
  clear HG
  have hn4 : ¬ (400 : Int) < (n : Int) := by omega
  go_enter Try.func22, Try.ntmps22
  go_upto_region 4 with (fail)
  refine name2 (Q := fun W => Code.wp _ _ _ _ W) ?_
  intro W hl hs k2 k5
  have R0 := hr.later hl
  clear hr
  go_loopw [21] (fun i wr => ∃ j : Nat, j ≤ n ∧ i = .int .i64 j ∧ Lat W wr) (fun i _ => n - (intOf i).toNat)
  case atStart => exact ⟨0, by omega, rfl, Lat.refl _⟩
  case round =>
    obtain ⟨j, hj, rfl, hlr⟩ := hrel
    by_cases hlt : j < n
    · obtain ⟨g, o, x, rfl, hgl2, hx, hxl, hrg⟩ := (R0.later hlr).at hlt
      obtain ⟨x, hxw, rfl⟩ := row_w hx
      have hrg : wr.rangeAt g (o + j * 8) [.int .u64 x.a0, .int .u64 x.a1, .int .u64 x.a2, .int .u64 x.a3, .int .u64 x.a4, .int .u64 x.a5, .int .u64 x.a6, .int .u64 x.a7] := hrg
      have HG1 := HGH.out j x hxw
      have hltI : (j : Int) < (n : Int) := by omega
      have b0 : (0 : Int) ≤ (j : Int) := by omega
      clear hx hxl hxw
      go_wp2_with (refine wpList_load_mid (by rfl) 44 (.tmp 23) (by rfl) g (o + j * 8) (by rfl) [.int .u64 x.a0, .int .u64 x.a1, .int .u64 x.a2, .int .u64 x.a3, .int .u64 x.a4, .int .u64 x.a5, .int .u64 x.a6, .int .u64 x.a7] _ hrg Try.underlying44 rfl (by kernel_rfl) ?_)
      refine name1 (Q := fun W => Calls _ _ _ W _) ?_
      intro V1 l1 hs1 k8
      refine (HG1 V1).mono ?_
      rintro e V2 ⟨rfl, l2⟩
      have LL := hlr.trans (l1.trans l2)
      clear l1 l2 hs1 k8 hrg HG1
      have hsg := HS0.out j hlt
      have hsd : decide (sg j < 0) = false := decide_eq_false (by omega)
      clear HS0
      go_wp2
      go_roundw
      case rel => exact ⟨j + 1, by omega, by go_num, LL⟩
      case measure => simp [intOf]; omega
    · obtain rfl : j = n := by omega
      clear hj hlt
      have k2 := k2.later hlr
      have k5 := k5.later hlr
      have L1 := hl.trans hlr
      have hs1 : w.heap.size + 2 ≤ wr.heap.size := by have := hlr.size; omega
      clear hlr hs R0
      go_wp2_with fail
      refine name1 (Q := fun W => Calls _ _ _ W _) ?_
      intro V1 l1 hs2 k9
      refine (HSUM wr.heap.size V1 (L1.trans l1) hs2 (by omega) k9).mono ?_
      rintro e V2 ⟨v, rfl, O, k9, l2⟩
      have k2 := (k2.later l1).keepP l2 (by omega)
      have k5 := (k5.later l1).keepP l2 (by omega)
      have L2 : Lat w V2 := l2.narrow (L1.trans l1) (by omega)
      have hs3 : w.heap.size + 2 ≤ V2.heap.size := by have := l2.size; omega
      obtain ⟨g9, hg9⟩ : ∃ z, wr.heap.size = z := ⟨_, rfl⟩
      have h29 : w.heap.size + 2 ≤ g9 := by omega
      rw [hg9] at k9 ⊢
      obtain ⟨A', c', rfl, R, _, hA', _⟩ := O.form
      rw [upsW_length] at R ⊢
      clear l1 l2 L1 hs1 hs2 hg9 HSUM O
      have e9 : V2.cell? ⟨g9, 0, none⟩ = some (.int .i64 6) := k9.cell 0
      have c5 : V2.cell? ⟨w.heap.size + 1, 0, none⟩ = some (.int .u64 0) := k5.cell 0
      have f5 := k5.frozen 0
      have h5 := k5.lt
      have e9b : (V2.setCell ⟨w.heap.size + 1, 0, none⟩ (.int .u64 0)).cell? ⟨g9, 0, none⟩ = some (.int .i64 6) := by
        rw [World.cell?_of_block (a := ⟨g9, 0, none⟩) (Below.heap_setCell V2 ⟨w.heap.size + 1, 0, none⟩ _ g9 (by show ¬ g9 = w.heap.size + 1; omega))]
        exact e9
      go_upto_region 12 with (fail)
      go_region
      go_wp2
      refine name_set (Q := fun W => bodyPost _ _ _ _ _ W.drew) k5 ?_
      intro V3 j5 _ _ l5
      have c6 := (j5.later (Lat.drew V3)).cell 0
      refine bodyPost_ret (v := .tuple #[.int .i64 0, .agg #[.int .u64 0], .int .i64 6]) (by simp [results, Try.results22, go_sem, c6]) rfl ?_
      exact ⟨rfl, (l5.narrow L2 (by omega)).trans (Lat.drew _)⟩

set_option maxRecDepth 100000 in
set_option maxHeartbeats 8000000 in
theorem pick_long (A : Option Addr) (n c s : Nat) (hn : 400 < n) (w : World) : Calls Try.prog 22 #[.agg #[.int .u64 s], .slice A n c] w (PickEnd w 0 0 3) := by
  have hn4 : (400 : Int) < (n : Int) := by omega
  go_enter Try.func22, Try.ntmps22
  go_upto_region 1 with (fail)
  refine name2 (Q := fun W => Code.wp _ _ _ _ W) ?_
  intro W hl hs k2 k5
  have c5 : W.cell? ⟨w.heap.size + 1, 0, none⟩ = some (.int .u64 0) := k5.cell 0
  have f5 := k5.frozen 0
  have h5 := k5.lt
  go_wp2
  refine name_set (Q := fun W => bodyPost _ _ _ _ _ W) k5 ?_
  intro V3 j5 _ _ l5
  have c6 : V3.cell? ⟨w.heap.size + 1, 0, none⟩ = some (.int .u64 0) := j5.cell 0
  refine bodyPost_ret (v := .tuple #[.int .i64 0, .agg #[.int .u64 0], .int .i64 3]) (by simp [results, Try.results22, go_sem, c6]) rfl ?_
  exact ⟨rfl, l5.narrow hl (by omega)⟩

/-- The sum as Add leaves it: what is too great becomes 0. -/
def satS : List Int → Int → Int
  | [], a => a
  | z :: l, a => satS l (if a + z < P511 then a + z else 0)
def satE : List Int → Int → Int → Int
  | [], _, e => e
  | z :: l, a, e => satE l (if a + z < P511 then a + z else 0) (if a + z < P511 then e else 6)
theorem satS_snoc (z : Int) : ∀ (l : List Int) (a : Int), satS (l ++ [z]) a = if satS l a + z < P511 then satS l a + z else 0
  | [], a => rfl
  | y :: l, a => satS_snoc z l _
theorem satE_snoc (z : Int) : ∀ (l : List Int) (a e : Int), satE (l ++ [z]) a e = if satS l a + z < P511 then satE l a e else 6
  | [], a, e => rfl
  | y :: l, a, e => satE_snoc z l _ _
theorem satS_in : ∀ (l : List Int), (∀ z ∈ l, 0 ≤ z) → ∀ a, 0 ≤ a → a < P511 → 0 ≤ satS l a ∧ satS l a < P511
  | [], _, a, h0, h1 => ⟨h0, h1⟩
  | z :: l, h, a, h0, h1 => by
    have hz := h z (List.mem_cons_self ..)
    refine satS_in l (fun y hy => h y (List.mem_cons_of_mem _ hy)) _ ?_ ?_
    · split <;> omega
    · split
      · assumption
      · exact P511_pos
theorem satE_keep : ∀ (l : List Int) (a : Int), satE l a 6 = 6
  | [], _ => rfl
  | z :: l, a => by
    show satE l _ (if a + z < P511 then 6 else 6) = 6
    rw [ite_self]
    exact satE_keep l _
theorem satE_big : ∀ (l : List Int), (∀ z ∈ l, 0 ≤ z) → ∀ a e, P511 ≤ a + l.sum → a < P511 → satE l a e = 6
  | [], _, a, e, h, h1 => by rw [List.sum_nil] at h; omega
  | z :: l, hz, a, e, h, h1 => by
    show satE l (if a + z < P511 then a + z else 0) (if a + z < P511 then e else 6) = 6
    rw [List.sum_cons] at h
    by_cases hb : a + z < P511
    · rw [if_pos hb, if_pos hb]
      exact satE_big l (fun y hy => hz y (List.mem_cons_of_mem _ hy)) _ _ (by omega) hb
    · rw [if_neg hb, if_neg hb]
      exact satE_keep l _
theorem pick_big (s : Nat) (ws : List W8) (hok : ∀ x ∈ ws, x.ok) (hns : ∀ x ∈ ws, 0 ≤ x.toInt) (hlen : ws.length ≤ 400) (hbig : P511 ≤ (ws.map W8.toInt).sum) (A : Option Addr) (c : Nat) (w : World) (hr : RowM w A 8 ws.length (wRows ws)) :
    Calls Try.prog 22 #[.agg #[.int .u64 s], .slice A ws.length c] w (PickEnd w 0 0 6) := by
  have hP := P511_pos
  have hnz : ∀ z ∈ ws.map W8.toInt, 0 ≤ z := fun z hz => by
    obtain ⟨x, hx, rfl⟩ := List.mem_map.1 hz
    exact hns x hx
  have hnt : ∀ i, ∀ z ∈ (ws.map W8.toInt).take i, 0 ≤ z := fun i z hz => hnz z (List.mem_of_mem_take hz)
  have htk : ∀ i x, ws[i]? = some x → (ws.map W8.toInt).take (i + 1) = (ws.map W8.toInt).take i ++ [x.toInt] := fun i x h => by
    obtain ⟨hlt, e⟩ := List.getElem?_eq_some_iff.1 h
    rw [List.take_succ_eq_append_getElem (by simpa using hlt)]
    simp [e]
  have hlast : (ws.map W8.toInt).take ws.length = ws.map W8.toInt := List.take_of_length_le (by simp)
  have HSUM : ∀ g9 W, Lat w W → g9 < W.heap.size → w.heap.size ≤ g9 → Blk W g9 29 #[.int .i64 0] → Calls Try.prog 36 #[.slice A ws.length c, .func (.func 37) #[] #[.pointer (some ⟨g9, 0, none⟩)]] W
      (fun e w' => ∃ v, e = .returned v ∧ OwnM w' W.heap.size 44 8 v (wRows (upsW (fun i => W8.of (satS ((ws.map W8.toInt).take i) 0)) ws.length)) ∧ Blk w' g9 29 #[.int .i64 6] ∧ LatP (· = g9) W w') := by
    intro g9 W hl hg hgw hb9
    have h := sums_in A ws.length c ws (fun i => W8.of (satS ((ws.map W8.toInt).take i) 0)) (fun i => satE ((ws.map W8.toInt).take i) 0 0) (by rw [W8.zero_eq]; rfl) (by omega) g9 (fun i x W' hx hb' => ?_) W (hr.later hl) (fun a ha => ?_) hb9
    · rw [hlast, satE_big _ hnz 0 0 (by omega) hP] at h
      exact h
    · have hxo := hok x (List.mem_of_getElem? hx)
      have hx0 := hns x (List.mem_of_getElem? hx)
      have hb := satS_in _ (hnt i) 0 (by omega) hP
      rw [htk i x hx, satE_snoc, satS_snoc]
      obtain ⟨S, hS⟩ : ∃ S, satS ((ws.map W8.toInt).take i) 0 = S := ⟨_, rfl⟩
      rw [hS] at hb ⊢
      by_cases hlt : S + x.toInt < P511
      · rw [if_pos hlt, if_pos hlt]
        refine plus_in (W8.of S) x (W8.of (S + x.toInt)) 0 _ _ (fun w => ?_) (fun _ => rfl) (fun h => absurd rfl h) g9 W' hb'
        refine (wAdd_any (W8.of S) x (W8.of_ok _) hxo w).mono ?_
        rintro e w' ⟨u, r, rfl, h, hl'⟩
        rw [W8.of_toInt (by omega) hb.2] at h
        rcases h with ⟨_, _, rfl, rfl⟩ | ⟨h, _, _⟩
        · exact ⟨rfl, hl'⟩
        · omega
      · rw [if_neg hlt, if_neg hlt]
        refine plus_in (W8.of S) x (W8.of 0) 6 _ _ (fun w => ?_) (fun h => absurd h (by decide)) (fun _ => rfl) g9 W' hb'
        refine (wAdd_any (W8.of S) x (W8.of_ok _) hxo w).mono ?_
        rintro e w' ⟨u, r, rfl, h, hl'⟩
        rw [W8.of_toInt (by omega) hb.2] at h
        rcases h with ⟨_, h, _, _⟩ | ⟨_, rfl, rfl⟩
        · omega
        · exact ⟨by rw [W8.zero_eq], hl'⟩
    · intro e
      rcases Nat.eq_zero_or_pos ws.length with hn0 | hp
      · rw [List.length_eq_zero_iff.1 hn0] at hbig
        simp at hbig
        omega
      · obtain ⟨g, o, e', hlt, _⟩ := hr.2.2 hp
        rw [ha] at e'
        cases e'
        have : g = g9 := e
        omega
  exact pick_over A ws.length c s ws hlen (fun i => sideOf ((ws.getD i W8.zero).toInt)) (fun i x h w => by
    have e : ws.getD i W8.zero = x := by rw [List.getD_eq_getElem?_getD, h]; rfl
    show Calls _ _ _ _ (fun e w' => e = .returned (.int .i64 (sideOf (ws.getD i W8.zero).toInt)) ∧ Lat w w')
    rw [e]
    exact wSign_any x (hok x (List.mem_of_getElem? h)) w) w _ (Lib.hid fun i hi => by
    have e : ws.getD i W8.zero = ws[i] := by rw [List.getD_eq_getElem?_getD, List.getElem?_eq_getElem hi]; rfl
    show 0 ≤ sideOf (ws.getD i W8.zero).toInt
    rw [e]
    exact (side_nonneg (hns _ (List.getElem_mem hi))).1) HSUM hr
end Go.Proofs.Ytogkkhaepfablaa
