/- Chance: what works asks of Pick, Wide, Below and Coin, at its numbers. -/
import Derived.Test.YtogkkhaepfablaaChU
import Derived.Test.YtogkkhaepfablaaChV
import Derived.Test.YtogkkhaepfablaaJ15
namespace Go.Proofs.Ytogkkhaepfablaa
open Go.RowKit Go.Shelf
set_option linter.unusedSimpArgs false

/-- The sums of weights, where none is too great. -/
theorem sums_ok (A : Option Addr) (n c : Nat) (ws : List W8) (hok : ∀ x ∈ ws, x.ok) (sI : Nat → Int) (h0 : sI 0 = 0) (hst : ∀ i x, ws[i]? = some x → sI (i + 1) = sI i + x.toInt) (hb : ∀ i, -P511 ≤ sI i ∧ sI i < P511) (hn : n ≤ 1000000) (hA0 : n = 0 → A = none)
    (w : World) (hr : RowM w A 8 n (wRows ws)) : ∀ g9 W, Lat w W → g9 < W.heap.size → w.heap.size ≤ g9 → Blk W g9 29 #[.int .i64 0] → Calls Try.prog 36 #[.slice A n c, .func (.func 37) #[] #[.pointer (some ⟨g9, 0, none⟩)]] W
      (fun e w' => ∃ v, e = .returned v ∧ OwnM w' W.heap.size 44 8 v (wRows (upsW (fun i => W8.of (sI i)) n)) ∧ Blk w' g9 29 #[.int .i64 0] ∧ LatP (· = g9) W w') := by
  intro g9 W hl hg hgw hb9
  refine sums_in A n c ws (fun i => W8.of (sI i)) (fun _ => 0) (by show W8.of (sI 0) = _; rw [h0, W8.zero_eq]) hn g9 (fun i x W' hx hb' => ?_) W (hr.later hl) (fun a ha => ?_) hb9
  · have hxo := hok x (List.mem_of_getElem? hx)
    refine plus_in (W8.of (sI i)) x (W8.of (sI (i + 1))) 0 0 0 (fun w => ?_) (fun _ => rfl) (fun h => absurd rfl h) g9 W' hb'
    refine (wAdd_any (W8.of (sI i)) x (W8.of_ok _) hxo w).mono ?_
    rintro e w' ⟨u, r, rfl, h, hl'⟩
    rw [W8.of_toInt (hb i).1 (hb i).2, ← hst i x hx] at h
    have := hb (i + 1)
    rcases h with ⟨_, _, rfl, rfl⟩ | ⟨h, _, _⟩
    · exact ⟨rfl, hl'⟩
    · omega
  · intro e
    rcases Nat.eq_zero_or_pos n with hn0 | hp
    · rw [hA0 hn0] at ha
      cases ha
    · obtain ⟨g, o, e', hlt, _⟩ := hr.2.2 hp
      rw [ha] at e'
      cases e'
      have : g = g9 := e
      omega
theorem rowM_blk {w : World} {g : Nat} {t : TypeId} {ws : List W8} (h : Blk w g t ((wRows ws).flatten).toArray) : RowM w (some ⟨g, 0, none⟩) 8 ws.length (wRows ws) := by
  have h8 : ∀ x ∈ wRows ws, x.length = 8 := by
    intro x hx
    unfold wRows at hx
    obtain ⟨y, _, rfl⟩ := List.mem_map.1 hx
    rfl
  refine ⟨by simp [wRows], h8, fun _ => ⟨g, 0, rfl, h.lt, fun i x hx j v hv => ?_⟩⟩
  rw [h.cell, List.getElem?_toArray, Nat.zero_add]
  exact flat_get h8 hx hv
theorem sgn_w (z : Int) (h1 : -P511 ≤ z) (h2 : z < P511) (w : World) : Calls Try.prog 32 #[.agg #[.int .u64 (W8.of z).a0, .int .u64 (W8.of z).a1, .int .u64 (W8.of z).a2, .int .u64 (W8.of z).a3, .int .u64 (W8.of z).a4, .int .u64 (W8.of z).a5, .int .u64 (W8.of z).a6, .int .u64 (W8.of z).a7]] w (fun e w' => e = .returned (.int .i64 (sideOf z)) ∧ Lat w w') := by
  have := wSign_any (W8.of z) (W8.of_ok z) w
  rwa [W8.of_toInt h1 h2] at this
theorem cmp_w (x z : Int) (h1 : -P511 ≤ x) (h2 : x < P511) (h3 : -P511 ≤ z) (h4 : z < P511) (w : World) : Calls Try.prog 19 #[.agg #[.int .u64 (W8.of x).a0, .int .u64 (W8.of x).a1, .int .u64 (W8.of x).a2, .int .u64 (W8.of x).a3, .int .u64 (W8.of x).a4, .int .u64 (W8.of x).a5, .int .u64 (W8.of x).a6, .int .u64 (W8.of x).a7], .agg #[.int .u64 (W8.of z).a0, .int .u64 (W8.of z).a1, .int .u64 (W8.of z).a2, .int .u64 (W8.of z).a3, .int .u64 (W8.of z).a4, .int .u64 (W8.of z).a5, .int .u64 (W8.of z).a6, .int .u64 (W8.of z).a7]] w (fun e w' => e = .returned (.int .i64 (sideOf (x - z))) ∧ Lat w w') := by
  have := wCmp_any (W8.of x) (W8.of z) (W8.of_ok x) (W8.of_ok z) w
  rwa [W8.of_toInt h1 h2, W8.of_toInt h3 h4] at this
theorem wide_w (z : Int) (h1 : -P511 ≤ z) (h2 : z < P511) (w : World) : Calls Try.prog 18 #[.agg #[.int .u64 (0 : Nat)], .agg #[.int .u64 (W8.of z).a0, .int .u64 (W8.of z).a1, .int .u64 (W8.of z).a2, .int .u64 (W8.of z).a3, .int .u64 (W8.of z).a4, .int .u64 (W8.of z).a5, .int .u64 (W8.of z).a6, .int .u64 (W8.of z).a7]] w (WidEnd w (W8.of (widV 0 z)) (widS 0 z) (widE 0 z)) := by
  have := cWide_any 0 (by decide) (W8.of z) (W8.of_ok z) w
  rwa [W8.of_toInt h1 h2] at this
theorem lk1 : widV 0 1 = 0 ∧ widS 0 1 = 0 ∧ widE 0 1 = 0 := by decide +kernel
theorem lk16 : widV 0 16 = 15 ∧ widE 0 16 = 0 := by decide +kernel
theorem lk2 : widV 0 2 = 1 ∧ widE 0 2 = 0 := by decide +kernel
theorem lk5 : (0 ≤ widV 0 5 ∧ widV 0 5 < 5) ∧ widE 0 5 = 0 ∧ widS 0 5 ≠ 0 ∧ widS 0 5 < 18446744073709551616 := by decide +kernel
theorem lb10 : belV 0 10 = 5 ∧ belE 0 10 = 0 ∧ belS 0 10 ≠ 0 ∧ belS 0 10 < 18446744073709551616 := by decide +kernel
theorem lb1 : belV 0 1 = 0 ∧ belE 0 1 = 0 ∧ belS 0 1 ≠ 0 ∧ belS 0 1 < 18446744073709551616 := by decide +kernel
theorem lb0 : belV 0 0 = 0 ∧ belE 0 0 = 2 ∧ belS 0 0 = 0 := by decide +kernel
theorem ln3 : chMix (chStep 0) = 16294208416658607535 ∧ chMix (chStep (chStep 0)) = 7960286522194355700 ∧ chMix (chStep (chStep (chStep 0))) = 487617019471545679 := by decide +kernel

theorem pickNil (w : World) : Calls Try.prog 22 #[.agg #[.int .u64 (0 : Nat)], .slice none 0 0] w (PickEnd w 0 0 7) :=
  pick_none none 0 0 0 [] (by decide) (fun _ => 0) (fun i x h => by simp at h) w rfl (fun i => W8.of 0) (Lib.hid fun i h => absurd h (by omega))
    (sums_ok none 0 0 [] (fun x h => by simp at h) (fun _ => 0) rfl (fun i x h => by simp at h) (fun i => ⟨by decide, by decide⟩) (by decide) (fun _ => rfl) w (RowM.nil _ _ _)) (RowM.nil _ _ _)
theorem pickNeg (g : Nat) (w : World) (h : Blk w g 44 #[.int .u64 (W8.of (-1)).a0, .int .u64 (W8.of (-1)).a1, .int .u64 (W8.of (-1)).a2, .int .u64 (W8.of (-1)).a3, .int .u64 (W8.of (-1)).a4, .int .u64 (W8.of (-1)).a5, .int .u64 (W8.of (-1)).a6, .int .u64 (W8.of (-1)).a7]) : Calls Try.prog 22 #[.agg #[.int .u64 (0 : Nat)], .slice (some ⟨g, 0, none⟩) 1 1] w (PickEnd w 0 0 2) :=
  pick_neg (some ⟨g, 0, none⟩) 1 1 0 [W8.of (-1)] (by decide) (fun _ => -1) (fun i x hx w => by
    cases i with
    | zero => cases hx; exact sgn_w (-1) (by decide) (by decide) w
    | succ i => simp at hx) 0 (by decide) (Lib.hid fun i h => absurd h (by omega)) (by decide) w (rowM_blk (ws := [W8.of (-1)]) h)
def wMid : List W8 := [W8.of 0, W8.of 5, W8.of 0]
def sMid : Nat → Int
  | 0 => 0
  | 1 => 0
  | _ => 5
theorem sMid_in (i : Nat) : -P511 ≤ sMid i ∧ sMid i < P511 := by
  match i with
  | 0 => exact ⟨by decide, by decide⟩
  | 1 => exact ⟨by decide, by decide⟩
  | i + 2 => exact ⟨by show -P511 ≤ 5; decide, by show (5 : Int) < P511; decide⟩
theorem wMid_int (i : Nat) (x : W8) (h : wMid[i]? = some x) : x.ok ∧ sMid (i + 1) = sMid i + x.toInt ∧ 0 ≤ x.toInt ∧ x.toInt < P511 := by
  match i, h with
  | 0, h => cases h; exact ⟨W8.of_ok _, by decide, by decide, by decide⟩
  | 1, h => cases h; exact ⟨W8.of_ok _, by decide, by decide, by decide⟩
  | 2, h => cases h; exact ⟨W8.of_ok _, by decide, by decide, by decide⟩
theorem pickMid (g : Nat) (w : World) (h : Blk w g 44 #[.int .u64 W8.zero.a0, .int .u64 W8.zero.a1, .int .u64 W8.zero.a2, .int .u64 W8.zero.a3, .int .u64 W8.zero.a4, .int .u64 W8.zero.a5, .int .u64 W8.zero.a6, .int .u64 W8.zero.a7, .int .u64 (W8.of 5).a0, .int .u64 (W8.of 5).a1, .int .u64 (W8.of 5).a2, .int .u64 (W8.of 5).a3, .int .u64 (W8.of 5).a4, .int .u64 (W8.of 5).a5, .int .u64 (W8.of 5).a6, .int .u64 (W8.of 5).a7, .int .u64 W8.zero.a0, .int .u64 W8.zero.a1, .int .u64 W8.zero.a2, .int .u64 W8.zero.a3, .int .u64 W8.zero.a4, .int .u64 W8.zero.a5, .int .u64 W8.zero.a6, .int .u64 W8.zero.a7]) : Calls Try.prog 22 #[.agg #[.int .u64 (0 : Nat)], .slice (some ⟨g, 0, none⟩) 3 3] w (PickEnd w 1 (widS 0 5) 0) := by
  have hr : RowM w (some ⟨g, 0, none⟩) 8 3 (wRows wMid) := by
    have e : W8.of 0 = W8.zero := W8.zero_eq.symm
    have := rowM_blk (w := w) (g := g) (t := 44) (ws := [W8.zero, W8.of 5, W8.zero]) h
    unfold wMid
    rw [e]
    exact this
  obtain ⟨⟨v0, v5⟩, e5, _⟩ := lk5
  have hp : (5 : Int) < P511 := by decide
  have hp2 : -P511 ≤ 0 := by decide
  have HW := wide_w 5 (by decide) (by decide)
  rw [e5] at HW
  obtain ⟨x, hx⟩ : ∃ x, widV 0 5 = x := ⟨_, rfl⟩
  rw [hx] at v0 v5 HW
  refine pick_ok (some ⟨g, 0, none⟩) 3 3 0 wMid (by decide) (fun i => if h : i < wMid.length then sideOf (wMid[i].toInt) else 0) (fun i y hy w => ?_) w (by decide) (fun i => W8.of (sMid i)) (Lib.hid fun i hi => ?_)
    (sums_ok (some ⟨g, 0, none⟩) 3 3 wMid (fun y hy => ?_) sMid rfl (fun i y hy => (wMid_int i y hy).2.1) sMid_in (by decide) (fun h => absurd h (by decide)) w hr) 1 (by decide) (fun w => sgn_w 5 (by decide) (by decide) w) (W8.of x) (widS 0 5) HW 1 (by decide)
    (fun k => sideOf (sMid (k + 1) - x)) (fun k hk w => cmp_w (sMid (k + 1)) x (sMid_in _).1 (sMid_in _).2 (by omega) (by omega) w) (fun k hk => ?_) ?_ hr
  · obtain ⟨hlt, e⟩ := List.getElem?_eq_some_iff.1 hy
    obtain ⟨h1, _, _, _⟩ := wMid_int i y hy
    have := wSign_any y h1 w
    simp only [dif_pos hlt, e]
    exact this
  · have hlt : i < wMid.length := hi
    simp only [dif_pos hlt]
    have := (wMid_int i wMid[i] (List.getElem?_eq_getElem hlt)).2.2.1
    exact (side_nonneg this).1
  · obtain ⟨i, hi⟩ := List.getElem?_of_mem hy
    exact (wMid_int i y hi).1
  · obtain rfl : k = 0 := by omega
    show sideOf (0 - x) ≤ 0
    rw [sideOf]
    split
    · decide
    · split
      · decide
      · omega
  · show 0 < sideOf (5 - x)
    rw [sideOf, if_neg (by omega), if_neg (by omega)]
    decide
theorem coinHalf (u v : W8) (hu : u.ok) (hv : v.ok) (h1 : u.toInt = 1) (h2 : v.toInt = 2) (w : World) : Calls Try.prog 25 #[.agg #[.int .u64 (0 : Nat)], .agg #[.int .u64 u.a0, .int .u64 u.a1, .int .u64 u.a2, .int .u64 u.a3, .int .u64 u.a4, .int .u64 u.a5, .int .u64 u.a6, .int .u64 u.a7, .int .u64 v.a0, .int .u64 v.a1, .int .u64 v.a2, .int .u64 v.a3, .int .u64 v.a4, .int .u64 v.a5, .int .u64 v.a6, .int .u64 v.a7]] w (CoinEnd w false (widS 0 2) 0) := by
  have eu : u = W8.of 1 := W8.eq_of hu h1
  have ev : v = W8.of 2 := W8.eq_of hv h2
  subst eu
  subst ev
  have HW := wide_w 2 (by decide) (by decide)
  rw [lk2.1, lk2.2] at HW
  exact coin_ok 0 (W8.of 1) (W8.of 2) (fun w => shCheck_ok (W8.of 1) (W8.of 2) (W8.of_ok 1) (W8.of_ok 2) (by rw [h1, h2]; exact ⟨by decide, by decide⟩) w) 1 (by decide) (fun w => sgn_w 1 (by decide) (by decide) w)
    (-1) (by decide) (fun w => cmp_w 1 2 (by decide) (by decide) (by decide) (by decide) w) (W8.of 1) (widS 0 2) HW 0 (fun w => cmp_w 1 1 (by decide) (by decide) (by decide) (by decide) w) w
end Go.Proofs.Ytogkkhaepfablaa
