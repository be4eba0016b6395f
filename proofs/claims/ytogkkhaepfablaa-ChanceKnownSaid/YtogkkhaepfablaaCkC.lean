
/- Chance: ChanceKnown, walked (printed by gen_ck2.py). -/
import Derived.Test.YtogkkhaepfablaaCkB
import Derived.Test.YtogkkhaepfablaaRowC
import Derived.Test.YtogkkhaepfablaaCfA
import Derived.Laws.MakeOwn
namespace Go.Proofs.Ytogkkhaepfablaa
open Go.RowKit Go.Shelf
set_option linter.unusedSimpArgs false
set_option linter.unusedVariables false

theorem ckRD {w : World} {g : Nat} {N D : W8} {up : Bool} {er : Int} (h : Blk w g 57 #[.int .u64 N.a0, .int .u64 N.a1, .int .u64 N.a2, .int .u64 N.a3, .int .u64 N.a4, .int .u64 N.a5, .int .u64 N.a6, .int .u64 N.a7, .int .u64 D.a0, .int .u64 D.a1, .int .u64 D.a2, .int .u64 D.a3, .int .u64 D.a4, .int .u64 D.a5, .int .u64 D.a6, .int .u64 D.a7, .bool up, .int .i64 er]) : w.rangeAt g 8 [.int .u64 D.a0, .int .u64 D.a1, .int .u64 D.a2, .int .u64 D.a3, .int .u64 D.a4, .int .u64 D.a5, .int .u64 D.a6, .int .u64 D.a7] :=
  h.range _ (fun j v hj => by
    match j, hj with
    | 0, h => cases h; rfl
    | 1, h => cases h; rfl
    | 2, h => cases h; rfl
    | 3, h => cases h; rfl
    | 4, h => cases h; rfl
    | 5, h => cases h; rfl
    | 6, h => cases h; rfl
    | 7, h => cases h; rfl)
theorem ckFacts {lw mw zw bw : W8} (hlw : lw = leastW) (hmw : mw = mostW) (hzw : zw = W8.of 0) (hbw : bw = W8.of (widV 0 (P511 - 1))) :
    (∀ w, Calls Try.prog 18 #[.agg #[.int .u64 0], .agg #[.int .u64 0, .int .u64 0, .int .u64 0, .int .u64 0, .int .u64 0, .int .u64 0, .int .u64 0, .int .u64 0]] w (fun e w' => e = .returned (.tuple #[.agg #[.int .u64 zw.a0, .int .u64 zw.a1, .int .u64 zw.a2, .int .u64 zw.a3, .int .u64 zw.a4, .int .u64 zw.a5, .int .u64 zw.a6, .int .u64 zw.a7], .agg #[.int .u64 0], .int .i64 2]) ∧ Lat w w')) ∧
    (∀ w, Calls Try.prog 18 #[.agg #[.int .u64 0], .agg #[.int .u64 lw.a0, .int .u64 lw.a1, .int .u64 lw.a2, .int .u64 lw.a3, .int .u64 lw.a4, .int .u64 lw.a5, .int .u64 lw.a6, .int .u64 lw.a7]] w (fun e w' => e = .returned (.tuple #[.agg #[.int .u64 zw.a0, .int .u64 zw.a1, .int .u64 zw.a2, .int .u64 zw.a3, .int .u64 zw.a4, .int .u64 zw.a5, .int .u64 zw.a6, .int .u64 zw.a7], .agg #[.int .u64 0], .int .i64 2]) ∧ Lat w w')) ∧
    ∃ t : Nat, (∀ w, Calls Try.prog 18 #[.agg #[.int .u64 0], .agg #[.int .u64 mw.a0, .int .u64 mw.a1, .int .u64 mw.a2, .int .u64 mw.a3, .int .u64 mw.a4, .int .u64 mw.a5, .int .u64 mw.a6, .int .u64 mw.a7]] w (fun e w' => e = .returned (.tuple #[.agg #[.int .u64 bw.a0, .int .u64 bw.a1, .int .u64 bw.a2, .int .u64 bw.a3, .int .u64 bw.a4, .int .u64 bw.a5, .int .u64 bw.a6, .int .u64 bw.a7], .agg #[.int .u64 (t : Nat)], .int .i64 0]) ∧ Lat w w')) ∧
    ∃ cv : Int, decide (cv < 0) = true ∧ ∀ w, Calls Try.prog 19 #[.agg #[.int .u64 bw.a0, .int .u64 bw.a1, .int .u64 bw.a2, .int .u64 bw.a3, .int .u64 bw.a4, .int .u64 bw.a5, .int .u64 bw.a6, .int .u64 bw.a7], .agg #[.int .u64 mw.a0, .int .u64 mw.a1, .int .u64 mw.a2, .int .u64 mw.a3, .int .u64 mw.a4, .int .u64 mw.a5, .int .u64 mw.a6, .int .u64 mw.a7]] w (fun e w' => e = .returned (.int .i64 cv) ∧ Lat w w') := by
  subst hlw hmw hzw hbw
  have hP : (1 : Int) < P511 := by decide
  refine ⟨fun w => ?_, fun w => ?_, widS 0 (P511 - 1), fun w => ?_, sideOf (widV 0 (P511 - 1) - (P511 - 1)), ?_, fun w => ?_⟩
  · have h := cWide_any 0 (by decide) W8.zero W8.zero_ok w
    have e : W8.zero.toInt = 0 := by decide
    rw [e] at h
    exact h
  · have h := cWide_any 0 (by decide) leastW leastW_ok.1 w
    rw [leastW_ok.2] at h
    have e1 : widV 0 (-P511) = 0 := by unfold widV; rw [if_pos (by omega)]
    have e2 : widS 0 (-P511) = 0 := by unfold widS; rw [if_pos (by omega)]
    have e3 : widE 0 (-P511) = 2 := by unfold widE; rw [if_pos (by omega)]
    rw [e1, e2, e3] at h
    exact h
  · have h := cWide_any 0 (by decide) mostW mostW_ok.1 w
    rw [mostW_ok.2, ckW] at h
    exact h
  · rcases wid_in (s := 0) (n := P511 - 1) (by omega) with he | ⟨_, h0, h1⟩
    · rw [ckW] at he; exact absurd he (by decide)
    · exact decide_eq_true (side_neg (by omega))
  · have hb : -P511 ≤ widV 0 (P511 - 1) ∧ widV 0 (P511 - 1) < P511 := by
      rcases wid_in (s := 0) (n := P511 - 1) (by omega) with he | ⟨_, h0, h1⟩
      · rw [ckW] at he; exact absurd he (by decide)
      · omega
    have h := wCmp_any (W8.of (widV 0 (P511 - 1))) mostW (W8.of_ok _) mostW_ok.1 w
    rw [W8.of_toInt hb.1 hb.2, mostW_ok.2] at h
    exact h
theorem ckGuards : (Try.prog.info? 24).map (·.size) = some 1 ∧ (Try.prog.info? 44).map (·.size) = some 8 ∧ Hid (Try.prog.eqGuardType Try.prog.depth 24 = false) ∧ Hid (∀ w, (binOp .eql 24 (.agg #[.int .u64 0]) (.agg #[.int .u64 0])).run Try.prog w = .ok (.bool true) w) :=
  ⟨by kernel_rfl, by kernel_rfl, Lib.hid (by kernel_rfl), Lib.hid (fun w => chance_eql (s := 0) (t := 0) (by decide) (by decide) w)⟩
theorem wz_len (n : Nat) : (wRows (List.replicate n W8.zero)).length = n := by simp [wRows]
theorem wz_set (n : Nat) (om : W8) : (wRows (List.replicate (n + 1) W8.zero)).set n [.int .u64 om.a0, .int .u64 om.a1, .int .u64 om.a2, .int .u64 om.a3, .int .u64 om.a4, .int .u64 om.a5, .int .u64 om.a6, .int .u64 om.a7] = wRows (List.replicate n W8.zero ++ [om]) := by
  have h2 : List.replicate (n + 1) W8.zero = List.replicate n W8.zero ++ [W8.zero] := List.replicate_succ'
  rw [h2]
  unfold wRows
  rw [List.map_append, List.map_append, List.set_append_right _ _ (by simp)]
  simp [wRow]
theorem wz_take (n : Nat) (om : W8) : ((wRows (List.replicate (n + 1) W8.zero)).set n [.int .u64 om.a0, .int .u64 om.a1, .int .u64 om.a2, .int .u64 om.a3, .int .u64 om.a4, .int .u64 om.a5, .int .u64 om.a6, .int .u64 om.a7]).take n = wRows ((List.replicate n (0 : Int)).map W8.of) := by
  rw [wz_set]
  unfold wRows
  rw [List.map_append, List.take_append_of_le_length (by simp), List.take_of_length_le (by simp), List.map_replicate, List.map_replicate, List.map_replicate, W8.zero_eq]
theorem wz_drop (n : Nat) (om : W8) : ((wRows (List.replicate (n + 2) W8.zero)).set (n + 1) [.int .u64 om.a0, .int .u64 om.a1, .int .u64 om.a2, .int .u64 om.a3, .int .u64 om.a4, .int .u64 om.a5, .int .u64 om.a6, .int .u64 om.a7]).drop 1 = wRows (List.replicate n W8.zero ++ [om]) := by
  rw [wz_set]
  unfold wRows
  rw [List.map_append, List.map_append, List.map_replicate, List.map_replicate, List.replicate_succ]
  rfl
theorem sum_rep0 (n : Nat) : (List.replicate n (0 : Int)).sum = 0 := by
  induction n with
  | zero => rfl
  | succ n ih => rw [List.replicate_succ, List.sum_cons, ih]; rfl
theorem ckMake : ∃ zs : Array Value, (∀ W, (Instr.makeSlice 50 (.int .i64 401) (.int .i64 401)).run Try.prog W = .ok (.slice (some ⟨W.heap.size, 0, none⟩) 401 401) (W.alloc (.cells zs 44))) ∧
    ∀ W g, Blk W g 44 zs → RowB W g 44 8 (wRows (List.replicate 401 W8.zero)) := by
  obtain ⟨i0, hi, hz0, hz1, hz2⟩ := info_parts wideInfoA
  refine ⟨_, fun W => run_makeSlice W 50 44 i0 _ Try.underlying50 hi hz0 .i64 .i64 401 401 (by decide) (by decide) (by rw [hz1]; decide) (by rw [hz2]; decide) (by decide), fun W g hb => ?_⟩
  have hs : ∀ x ∈ wRows (List.replicate 401 W8.zero), x = wRow W8.zero := fun x hx => by
    obtain ⟨y, hy, rfl⟩ := List.mem_map.1 hx
    rw [(List.mem_replicate.1 hy).2]
  refine ⟨fun x hx => ?_, _, hb, ?_, fun i x hx j v hv => ?_⟩
  · rw [hs x hx]
    exact ⟨rfl, by intro v hv; simp [wRow] at hv; rcases hv with rfl | rfl | rfl | rfl | rfl | rfl | rfl | rfl <;> rfl⟩
  · rw [size_madeCells, hz1, wz_len]
    exact Nat.le_refl _
  · have hx2 := hs x (List.mem_of_getElem? hx)
    subst hx2
    have hi4 : i < 401 := by have := (List.getElem?_eq_some_iff.1 hx).1; rw [wz_len] at this; exact this
    have hj : j < 8 := (List.getElem?_eq_some_iff.1 hv).1
    have hv0 : v = .int .u64 0 := by
      match j, hj, hv with
      | 0, _, h => cases h; rfl
      | 1, _, h => cases h; rfl
      | 2, _, h => cases h; rfl
      | 3, _, h => cases h; rfl
      | 4, _, h => cases h; rfl
      | 5, _, h => cases h; rfl
      | 6, _, h => cases h; rfl
      | 7, _, h => cases h; rfl
    subst hv0
    have hlt : i * 8 + j < (Int.toNat 401) * i0.size := by rw [hz1]; show i * 8 + j < 401 * 8; omega
    unfold madeCells
    rw [Array.getElem?_map, Array.getElem?_range, if_pos hlt]
    have hm : ∀ r : Nat, r < 8 → (Value.cells (.agg #[.int .u64 0, .int .u64 0, .int .u64 0, .int .u64 0, .int .u64 0, .int .u64 0, .int .u64 0, .int .u64 0]))[r]! = .int .u64 0 := by
      intro r hr
      match r, hr with
      | 0, _ => rfl
      | 1, _ => rfl
      | 2, _ => rfl
      | 3, _ => rfl
      | 4, _ => rfl
      | 5, _ => rfl
      | 6, _ => rfl
      | 7, _ => rfl
    exact congrArg some (hm _ (Nat.mod_lt _ (by decide)))
theorem ckOf : ∃ o1 om : W8, o1 = W8.of 1 ∧ om = W8.of (-1) ∧ (∀ w, Calls Try.prog 21 #[.int .i64 1] w (fun e w' => e = .returned (.agg #[.int .u64 o1.a0, .int .u64 o1.a1, .int .u64 o1.a2, .int .u64 o1.a3, .int .u64 o1.a4, .int .u64 o1.a5, .int .u64 o1.a6, .int .u64 o1.a7]) ∧ Lat w w')) ∧ (∀ w, Calls Try.prog 21 #[.int .i64 (-1)] w (fun e w' => e = .returned (.agg #[.int .u64 om.a0, .int .u64 om.a1, .int .u64 om.a2, .int .u64 om.a3, .int .u64 om.a4, .int .u64 om.a5, .int .u64 om.a6, .int .u64 om.a7]) ∧ Lat w w')) :=
  ⟨_, _, rfl, rfl, fun w => of_any 1 (by decide) (by decide) w, fun w => of_any (-1) (by decide) (by decide) w⟩
theorem ckLong (g : Nat) (w : World) : Calls Try.prog 22 #[.agg #[.int .u64 0], .slice (some ⟨g, 0, none⟩) 401 401] w (fun e w' => e = .returned (.tuple #[.int .i64 0, .agg #[.int .u64 0], .int .i64 3]) ∧ Lat w w') :=
  pick_long (some ⟨g, 0, none⟩) 401 401 0 (by decide) w
theorem ckPickNN {ns : List Int} (hns : ∀ x ∈ ns, 0 ≤ x) (hlen : ns.length ≤ 400) (hsum : ns.sum < P511) {k : Int} {t : Nat} {en : Int} (hu : ∀ k' t' en', PickIs 0 ns k' t' en' → k' = k ∧ t' = t ∧ en' = en) {A : Option Addr} {c : Nat} {w : World} (h0 : ns.length ≠ 0) (hr : RowM w A 8 ns.length (wRows (ns.map W8.of))) :
    Calls Try.prog 22 #[.agg #[.int .u64 0], .slice A ns.length c] w (fun e w' => e = .returned (.tuple #[.int .i64 k, .agg #[.int .u64 (t : Nat)], .int .i64 en]) ∧ Lat w w') := by
  obtain ⟨k', t', en', hp, H⟩ := pick_nn 0 (by decide) ns hns hlen hsum
  obtain ⟨rfl, rfl, rfl⟩ := hu _ _ _ hp
  exact H A c w (fun h => absurd h h0) hr
theorem ckIs {ns : List Int} (hs : ns.sum = 1) {K : Nat} (h1 : ∀ j : Nat, preS ns j ≤ 0 → 0 < preS ns (j + 1) → j = K) : ∀ k' t' en', PickIs 0 ns k' t' en' → k' = (K : Int) ∧ t' = 0 ∧ en' = 0 := by
  intro k' t' en' h
  unfold PickIs at h
  rw [hs, lk1.1, lk1.2.1, lk1.2.2] at h
  rcases h with ⟨h, _⟩ | ⟨_, h, _⟩ | ⟨_, _, rfl, rfl, j, rfl, _, h2, h3⟩
  · exact absurd h (by decide)
  · exact absurd h (by decide)
  · exact ⟨by rw [h1 j h2 h3], rfl, rfl⟩
theorem ckP1 {o1 : W8} (ho : o1 = W8.of 1) (g : Nat) (w : World) (hb : Blk w g 44 #[.int .u64 o1.a0, .int .u64 o1.a1, .int .u64 o1.a2, .int .u64 o1.a3, .int .u64 o1.a4, .int .u64 o1.a5, .int .u64 o1.a6, .int .u64 o1.a7]) : Calls Try.prog 22 #[.agg #[.int .u64 0], .slice (some ⟨g, 0, none⟩) 1 1] w (fun e w' => e = .returned (.tuple #[.int .i64 0, .agg #[.int .u64 0], .int .i64 0]) ∧ Lat w w') := by
  subst ho
  exact ckPickNN (ns := [1]) (by decide) (by decide) (by decide) (ckIs (K := 0) (by decide) (fun j h2 h3 => by
    match j with
    | 0 => rfl
    | j + 1 => rw [show preS [1] (j + 1) = 1 by simp [preS]] at h2; exact absurd h2 (by decide))) (by decide) (rowM_blk (ws := [W8.of 1]) hb)
theorem ckPZ {o1 : W8} (ho : o1 = W8.of 1) (g : Nat) (w : World) (hb : Blk w g 44 #[.int .u64 W8.zero.a0, .int .u64 W8.zero.a1, .int .u64 W8.zero.a2, .int .u64 W8.zero.a3, .int .u64 W8.zero.a4, .int .u64 W8.zero.a5, .int .u64 W8.zero.a6, .int .u64 W8.zero.a7, .int .u64 W8.zero.a0, .int .u64 W8.zero.a1, .int .u64 W8.zero.a2, .int .u64 W8.zero.a3, .int .u64 W8.zero.a4, .int .u64 W8.zero.a5, .int .u64 W8.zero.a6, .int .u64 W8.zero.a7, .int .u64 o1.a0, .int .u64 o1.a1, .int .u64 o1.a2, .int .u64 o1.a3, .int .u64 o1.a4, .int .u64 o1.a5, .int .u64 o1.a6, .int .u64 o1.a7]) : Calls Try.prog 22 #[.agg #[.int .u64 0], .slice (some ⟨g, 0, none⟩) 3 3] w (fun e w' => e = .returned (.tuple #[.int .i64 2, .agg #[.int .u64 0], .int .i64 0]) ∧ Lat w w') := by
  subst ho
  rw [W8.zero_eq] at hb
  exact ckPickNN (ns := [0, 0, 1]) (by decide) (by decide) (by decide) (ckIs (K := 2) (by decide) (fun j h2 h3 => by
    match j with
    | 0 => exact absurd h3 (by decide)
    | 1 => exact absurd h3 (by decide)
    | 2 => rfl
    | j + 3 => rw [show preS [0, 0, 1] (j + 3) = 1 by simp [preS]] at h2; exact absurd h2 (by decide))) (by decide) (rowM_blk (ws := [W8.of 0, W8.of 0, W8.of 1]) hb)
theorem ckSg (ws : List W8) (hok : ∀ x ∈ ws, x.ok) : ∀ (i : Nat) (x : W8), ws[i]? = some x → ∀ w, Calls Try.prog 32 #[.agg #[.int .u64 x.a0, .int .u64 x.a1, .int .u64 x.a2, .int .u64 x.a3, .int .u64 x.a4, .int .u64 x.a5, .int .u64 x.a6, .int .u64 x.a7]] w (fun e w' => e = .returned (.int .i64 ((fun i => sideOf ((ws.getD i W8.zero).toInt)) i)) ∧ Lat w w') := fun i x h w => by
  have e : ws.getD i W8.zero = x := by rw [List.getD_eq_getElem?_getD, h]; rfl
  show Calls _ _ _ _ (fun e w' => e = .returned (.int .i64 (sideOf (ws.getD i W8.zero).toInt)) ∧ Lat w w')
  rw [e]
  exact wSign_any x (hok x (List.mem_of_getElem? h)) w
theorem om_neg : sideOf (W8.of (-1)).toInt < 0 := by decide +kernel
theorem ckP3 {mw om : W8} (hm : mw = mostW) (ho : om = W8.of (-1)) (g : Nat) (w : World) (hb : Blk w g 44 #[.int .u64 mw.a0, .int .u64 mw.a1, .int .u64 mw.a2, .int .u64 mw.a3, .int .u64 mw.a4, .int .u64 mw.a5, .int .u64 mw.a6, .int .u64 mw.a7, .int .u64 mw.a0, .int .u64 mw.a1, .int .u64 mw.a2, .int .u64 mw.a3, .int .u64 mw.a4, .int .u64 mw.a5, .int .u64 mw.a6, .int .u64 mw.a7, .int .u64 om.a0, .int .u64 om.a1, .int .u64 om.a2, .int .u64 om.a3, .int .u64 om.a4, .int .u64 om.a5, .int .u64 om.a6, .int .u64 om.a7]) : Calls Try.prog 22 #[.agg #[.int .u64 0], .slice (some ⟨g, 0, none⟩) 3 3] w (fun e w' => e = .returned (.tuple #[.int .i64 0, .agg #[.int .u64 0], .int .i64 2]) ∧ Lat w w') := by
  have hok : ∀ x ∈ [mw, mw, om], x.ok := fun x hx => by
    simp at hx
    rcases hx with rfl | rfl
    · rw [hm]; exact mostW_ok.1
    · rw [ho]; exact W8.of_ok _
  have hP : (1 : Int) < P511 := by decide
  refine pick_neg (some ⟨g, 0, none⟩) 3 3 0 [mw, mw, om] (by decide) _ (ckSg _ hok) 2 (by decide) (Lib.hid fun i hi => ?_) (by subst ho; exact om_neg) w (rowM_blk (ws := [mw, mw, om]) hb)
  have h0 : 0 ≤ sideOf mw.toInt := by rw [hm, mostW_ok.2]; exact (side_nonneg (by omega)).1
  match i, hi with
  | 0, _ => exact h0
  | 1, _ => exact h0
theorem ckP2 {mw o1 : W8} (hm : mw = mostW) (ho : o1 = W8.of 1) (g : Nat) (w : World) (hb : Blk w g 44 #[.int .u64 mw.a0, .int .u64 mw.a1, .int .u64 mw.a2, .int .u64 mw.a3, .int .u64 mw.a4, .int .u64 mw.a5, .int .u64 mw.a6, .int .u64 mw.a7, .int .u64 o1.a0, .int .u64 o1.a1, .int .u64 o1.a2, .int .u64 o1.a3, .int .u64 o1.a4, .int .u64 o1.a5, .int .u64 o1.a6, .int .u64 o1.a7]) : Calls Try.prog 22 #[.agg #[.int .u64 0], .slice (some ⟨g, 0, none⟩) 2 2] w (fun e w' => e = .returned (.tuple #[.int .i64 0, .agg #[.int .u64 0], .int .i64 6]) ∧ Lat w w') := by
  have hP : (1 : Int) < P511 := by decide
  have e1 : o1.toInt = 1 := by rw [ho]; exact W8.of_toInt (by decide) (by decide)
  have e2 : mw.toInt = P511 - 1 := by rw [hm]; exact mostW_ok.2
  refine pick_big 0 [mw, o1] (fun x hx => ?_) (fun x hx => ?_) (by simp) ?_ (some ⟨g, 0, none⟩) 2 w (rowM_blk (ws := [mw, o1]) hb)
  · simp at hx
    rcases hx with rfl | rfl
    · rw [hm]; exact mostW_ok.1
    · rw [ho]; exact W8.of_ok _
  · simp at hx
    rcases hx with rfl | rfl <;> omega
  · simp [e1, e2]
theorem ckZeros {W : World} {g : Nat} {om : W8} (h : RowB W g 44 8 ((wRows (List.replicate 401 W8.zero)).set 400 [.int .u64 om.a0, .int .u64 om.a1, .int .u64 om.a2, .int .u64 om.a3, .int .u64 om.a4, .int .u64 om.a5, .int .u64 om.a6, .int .u64 om.a7])) : ∀ w, Lat W w → Calls Try.prog 22 #[.agg #[.int .u64 0], .slice (some ⟨g, 0, none⟩) 400 401] w (fun e w' => e = .returned (.tuple #[.int .i64 0, .agg #[.int .u64 0], .int .i64 7]) ∧ Lat w w') := fun w hl => by
  have hl0 : ((wRows (List.replicate 401 W8.zero)).set 400 [.int .u64 om.a0, .int .u64 om.a1, .int .u64 om.a2, .int .u64 om.a3, .int .u64 om.a4, .int .u64 om.a5, .int .u64 om.a6, .int .u64 om.a7]).length = 401 := by rw [List.length_set, wz_len]
  have hr := ((h.later hl).row).take (k := 400) (by rw [hl0]; decide)
  rw [wz_take 400 om] at hr
  have hn : (List.replicate 400 (0 : Int)).length = 400 := List.length_replicate
  have hz := sum_rep0 400
  have H := @ckPickNN (List.replicate 400 0) (fun x hx => by rw [(List.mem_replicate.1 hx).2]; decide) (by rw [hn]; decide) (by rw [hz]; exact P511_pos) 0 0 7 (fun k' t' en' hp => ?_) (some ⟨g, 0, none⟩) 401 w (by rw [hn]; decide) (by rw [hn]; exact hr)
  · rw [hn] at H
    exact H
  unfold PickIs at hp
  rw [hz] at hp
  rcases hp with ⟨_, rfl, rfl, rfl⟩ | ⟨hp, _⟩ | ⟨hp, _⟩
  · exact ⟨rfl, rfl, rfl⟩
  · exact absurd hp (by decide)
  · exact absurd hp (by decide)
theorem ckNeg {W : World} {g : Nat} {om : W8} (ho : om = W8.of (-1)) (h : RowB W g 44 8 ((wRows (List.replicate 401 W8.zero)).set 400 [.int .u64 om.a0, .int .u64 om.a1, .int .u64 om.a2, .int .u64 om.a3, .int .u64 om.a4, .int .u64 om.a5, .int .u64 om.a6, .int .u64 om.a7])) : ∀ w, Lat W w → Calls Try.prog 22 #[.agg #[.int .u64 0], .slice (some ⟨g, 8, none⟩) 400 400] w (fun e w' => e = .returned (.tuple #[.int .i64 0, .agg #[.int .u64 0], .int .i64 2]) ∧ Lat w w') := fun w hl => by
  have hl0 : ((wRows (List.replicate 401 W8.zero)).set 400 [.int .u64 om.a0, .int .u64 om.a1, .int .u64 om.a2, .int .u64 om.a3, .int .u64 om.a4, .int .u64 om.a5, .int .u64 om.a6, .int .u64 om.a7]).length = 401 := by rw [List.length_set, wz_len]
  have hr := ((h.later hl).row).drop (k := 1) (by rw [hl0]; decide)
  rw [wz_drop 399 om, hl0] at hr
  have hln : (List.replicate 399 W8.zero).length = 399 := List.length_replicate
  have hok : ∀ x ∈ List.replicate 399 W8.zero ++ [om], x.ok := fun x hx => by
    rcases List.mem_append.1 hx with hx | hx
    · rw [(List.mem_replicate.1 hx).2]; exact W8.zero_ok
    · rw [List.mem_singleton.1 hx, ho]; exact W8.of_ok _
  refine pick_neg (some ⟨g, 8, none⟩) 400 400 0 (List.replicate 399 W8.zero ++ [om]) (by decide) _ (ckSg _ hok) 399 (by decide) (Lib.hid fun i hi => ?_) ?_ w hr
  · show 0 ≤ sideOf (((List.replicate 399 W8.zero ++ [om]).getD i W8.zero).toInt)
    rw [List.getD_eq_getElem?_getD, List.getElem?_append_left (by rw [hln]; exact hi), List.getElem?_replicate, if_pos hi]
    decide
  · show sideOf (((List.replicate 399 W8.zero ++ [om]).getD 399 W8.zero).toInt) < 0
    rw [List.getD_eq_getElem?_getD, List.getElem?_append_right (by rw [hln]; exact Nat.le_refl _), hln]
    subst ho
    exact om_neg
theorem ckBelow1 (w : World) : Calls Try.prog 14 #[.agg #[.int .u64 0], .int .i64 (-1)] w (fun e w' => e = .returned (.tuple #[.int .i64 0, .agg #[.int .u64 0], .int .i64 2]) ∧ Lat w w') :=
  cBelow_any 0 (by decide) (-1) (by decide) w
theorem ckBelow2 (w : World) : Calls Try.prog 14 #[.agg #[.int .u64 0], .int .i64 (-9223372036854775808)] w (fun e w' => e = .returned (.tuple #[.int .i64 0, .agg #[.int .u64 0], .int .i64 2]) ∧ Lat w w') :=
  cBelow_any 0 (by decide) (-9223372036854775808) (by decide) w
theorem ckBelowM : ∃ (bv : Int) (bs : Nat), 0 ≤ bv ∧ ∀ w, Calls Try.prog 14 #[.agg #[.int .u64 0], .int .i64 9223372036854775807] w (fun e w' => e = .returned (.tuple #[.int .i64 bv, .agg #[.int .u64 (bs : Nat)], .int .i64 0]) ∧ Lat w w') :=
  ⟨belV 0 9223372036854775807, belS 0 9223372036854775807, ckB.2, fun w => by
    have h := cBelow_any 0 (by decide) 9223372036854775807 (by decide) w
    rw [ckB.1] at h
    exact h⟩
theorem ckShuf0 (w : World) : Calls Try.prog 9 #[.agg #[.int .u64 0], .int .i64 0] w (fun e w' => ∃ g, e = .returned (.tuple #[.slice (some ⟨g, 0, none⟩) 0 0, .agg #[.int .u64 0], .int .i64 0]) ∧ Lat w w') := by
  refine (shuffle_in 0 0 (by decide) (by decide) w).mono fun e w' h => ?_
  rw [ckS0] at h
  rcases h with ⟨h, _⟩ | ⟨l, t, g, h1, _, h2, _, _, h4⟩
  · cases h
  · cases h1; exact ⟨g, h2, h4⟩
theorem ckShufN (w : World) : Calls Try.prog 9 #[.agg #[.int .u64 0], .int .i64 (-1)] w (fun e w' => e = .returned (.tuple #[.slice none 0 0, .agg #[.int .u64 0], .int .i64 2]) ∧ Lat w w') := shuffle_low 0 (-1) (by decide) w
theorem ckShuf400 (w : World) : Calls Try.prog 9 #[.agg #[.int .u64 0], .int .i64 400] w (fun e w' => ∃ (g t : Nat), e = .returned (.tuple #[.slice (some ⟨g, 0, none⟩) 400 400, .agg #[.int .u64 (t : Nat)], .int .i64 0]) ∧ Lat w w') := by
  refine (shuffle_in 0 400 (by decide) (by decide) w).mono fun e w' h => ?_
  have hS := ckS
  rcases h with ⟨h, _⟩ | ⟨l, t, g, h1, _, h2, _, _, h4⟩
  · rw [h] at hS; cases hS
  · exact ⟨g, t, h2, h4⟩
theorem ckSplitF : ∃ sp : Nat, Hid (∀ w, (binOp .neq 24 (.agg #[.int .u64 (sp : Nat)]) (.agg #[.int .u64 0])).run Try.prog w = .ok (.bool true) w) ∧ ∀ w, Calls Try.prog 16 #[.agg #[.int .u64 0], .int .i64 0] w (fun e w' => e = .returned (.agg #[.int .u64 (sp : Nat)]) ∧ Lat w w') :=
  ⟨chSplit 0 0, Lib.hid fun w => by
    have h1 := ckSplit.1
    have h2 := ckSplit.2
    have h := chance_neq (s := (chSplit 0 0 : Int)) (t := 0) ⟨by omega, by unfold W64; omega⟩ (by decide) w
    rw [decide_eq_false (by omega)] at h
    exact h, fun w => cSplit_any 0 (by decide) 0 w⟩
theorem ckBefore (w : World) : Calls Try.prog 12 #[.int .u64 16294208416658607535] w (fun e w' => e = .returned (.agg #[.int .u64 0]) ∧ Lat w w') := by
  have h := before_any 16294208416658607535 (by decide) w
  have e : chBefore 16294208416658607535 = 0 := by decide +kernel
  rw [e] at h
  exact h
/-- A row of the table: the share, what Coin comes to, and how the last test goes. -/
def CkRow (o1 N D : W8) (up : Bool) (er : Int) : Prop := ∃ t : Nat, (∀ w, Calls Try.prog 25 #[.agg #[.int .u64 0], .agg #[.int .u64 N.a0, .int .u64 N.a1, .int .u64 N.a2, .int .u64 N.a3, .int .u64 N.a4, .int .u64 N.a5, .int .u64 N.a6, .int .u64 N.a7, .int .u64 D.a0, .int .u64 D.a1, .int .u64 D.a2, .int .u64 D.a3, .int .u64 D.a4, .int .u64 D.a5, .int .u64 D.a6, .int .u64 D.a7]] w (fun e w' => e = .returned (.tuple #[.bool up, .agg #[.int .u64 (t : Nat)], .int .i64 er]) ∧ Lat w w')) ∧
  ((er == 0) = false ∨ ∃ b, er = 0 ∧ Hid (∀ w, (binOp .eql 44 (.agg #[.int .u64 D.a0, .int .u64 D.a1, .int .u64 D.a2, .int .u64 D.a3, .int .u64 D.a4, .int .u64 D.a5, .int .u64 D.a6, .int .u64 D.a7]) (.agg #[.int .u64 o1.a0, .int .u64 o1.a1, .int .u64 o1.a2, .int .u64 o1.a3, .int .u64 o1.a4, .int .u64 o1.a5, .int .u64 o1.a6, .int .u64 o1.a7])).run Try.prog w = .ok (.bool b) w) ∧ Hid (∀ w, (binOp .eql 24 (.agg #[.int .u64 (t : Nat)]) (.agg #[.int .u64 0])).run Try.prog w = .ok (.bool b) w))
theorem ck_bad {o1 N D : W8} {er : Int} (he : (er == 0) = false) (h : ∀ w, Calls Try.prog 25 #[.agg #[.int .u64 (0 : Nat)], .agg #[.int .u64 N.a0, .int .u64 N.a1, .int .u64 N.a2, .int .u64 N.a3, .int .u64 N.a4, .int .u64 N.a5, .int .u64 N.a6, .int .u64 N.a7, .int .u64 D.a0, .int .u64 D.a1, .int .u64 D.a2, .int .u64 D.a3, .int .u64 D.a4, .int .u64 D.a5, .int .u64 D.a6, .int .u64 D.a7]] w (CoinEnd w false 0 er)) : CkRow o1 N D false er := ⟨0, h, .inl he⟩
theorem sh_fit {N D : Int} (h : ShOk N D) (b : 0 ≤ N ∧ N ≤ D ∧ D ≤ 1000) : ShFit N D := by
  have hP : (1000 : Int) < P511 := by decide
  exact ⟨h, by omega, by omega, by omega⟩
theorem ck_ok {N D : Int} (hok : ShOk N D) (b : 0 ≤ N ∧ N ≤ D ∧ D ≤ 1000) (he : widE 0 D = 0) (ht : (D = 1 ∧ widS 0 D = 0) ∨ (D ≠ 1 ∧ widS 0 D ≠ 0)) (ht2 : widS 0 D < 18446744073709551616) : CkRow (W8.of 1) (W8.of N) (W8.of D) (decide (widV 0 D < N)) 0 := by
  obtain ⟨ub, t, en, hc, H⟩ := coin_nn 0 (by decide) N D (sh_fit hok b) b.1 b.2.1
  rcases hc with ⟨h, _⟩ | ⟨_, rfl, rfl, rfl⟩
  · rw [he] at h; exact absurd h (by decide)
  · refine ⟨_, H, .inr ⟨decide (D = 1), rfl, Lib.hid fun w => ?_, Lib.hid fun w => ?_⟩⟩
    · have hP : (1000 : Int) < P511 := by decide
      have hd := hok.1
      rw [wide_eq (W8.of_ok _) (W8.of_ok _)]
      have e1 : (W8.of D).mag = D := by rw [W8.of_mag]; exact Int.emod_eq_of_lt (by omega) (by have := P512_two; omega)
      have e2 : (W8.of 1).mag = 1 := by rw [W8.of_mag]; exact Int.emod_eq_of_lt (by omega) (by have := P512_two; omega)
      rw [e1, e2]
    · have hq : decide ((widS 0 D : Int) = 0) = decide (D = 1) := by
        refine decide_eq_decide.2 ⟨fun h => ?_, fun h => ?_⟩
        · rcases ht with ⟨h1, _⟩ | ⟨_, h2⟩
          · exact h1
          · omega
        · rcases ht with ⟨_, h2⟩ | ⟨h1, _⟩
          · omega
          · exact absurd h h1
      rw [← hq]
      exact chance_eql (s := (widS 0 D : Int)) (t := 0) ⟨by omega, by unfold W64; omega⟩ (by decide) w
set_option maxRecDepth 100000 in
set_option maxHeartbeats 8000000 in
theorem coin_badK (s : Nat) (u v : W8) (HK : ∀ w, Calls Try.prog 41 #[.agg #[.int .u64 u.a0, .int .u64 u.a1, .int .u64 u.a2, .int .u64 u.a3, .int .u64 u.a4, .int .u64 u.a5, .int .u64 u.a6, .int .u64 u.a7, .int .u64 v.a0, .int .u64 v.a1, .int .u64 v.a2, .int .u64 v.a3, .int .u64 v.a4, .int .u64 v.a5, .int .u64 v.a6, .int .u64 v.a7]] w (fun e w' => e = .returned (.int .i64 20) ∧ Lat w w')) (w : World) :
    Calls Try.prog 25 #[.agg #[.int .u64 s], .agg #[.int .u64 u.a0, .int .u64 u.a1, .int .u64 u.a2, .int .u64 u.a3, .int .u64 u.a4, .int .u64 u.a5, .int .u64 u.a6, .int .u64 u.a7, .int .u64 v.a0, .int .u64 v.a1, .int .u64 v.a2, .int .u64 v.a3, .int .u64 v.a4, .int .u64 v.a5, .int .u64 v.a6, .int .u64 v.a7]] w (CoinEnd w false 0 20) := by
  go_enter Try.func25, Try.ntmps25
  go_wp2_with fail
  refine name3 (Q := fun W => Calls _ _ _ W _) ?_
  intro W1 l1 hs1 k2 k3 k5
  refine (HK W1).mono ?_
  rintro e W2 ⟨rfl, l2⟩
  replace k2 := k2.later l2
  replace k3 := k3.later l2
  replace k5 := k5.later l2
  have L2 := l1.trans l2
  have hs2 : w.heap.size + 3 ≤ W2.heap.size := by have := l2.size; omega
  clear l1 l2 hs1 HK
  have c5 : W2.cell? ⟨w.heap.size + 1 + 1, 0, none⟩ = some (.int .u64 0) := k5.cell 0
  have f5 := k5.frozen 0
  have h5 := k5.lt
  go_wp2
  refine name_set (Q := fun W => bodyPost _ _ _ _ _ W) k5 ?_
  intro X3 j5 _ _ l9
  have c6 : X3.cell? ⟨w.heap.size + 1 + 1, 0, none⟩ = some (.int .u64 0) := j5.cell 0
  refine bodyPost_ret (v := .tuple #[.bool false, .agg #[.int .u64 0], .int .i64 20]) (by simp [results, Try.results25, go_sem, c6]) rfl ?_
  exact ⟨rfl, l9.narrow L2 (by omega)⟩

set_option maxRecDepth 100000 in
set_option maxHeartbeats 8000000 in
theorem coin_negK (s : Nat) (u v : W8) (HK : ∀ w, Calls Try.prog 41 #[.agg #[.int .u64 u.a0, .int .u64 u.a1, .int .u64 u.a2, .int .u64 u.a3, .int .u64 u.a4, .int .u64 u.a5, .int .u64 u.a6, .int .u64 u.a7, .int .u64 v.a0, .int .u64 v.a1, .int .u64 v.a2, .int .u64 v.a3, .int .u64 v.a4, .int .u64 v.a5, .int .u64 v.a6, .int .u64 v.a7]] w (fun e w' => e = .returned (.int .i64 0) ∧ Lat w w')) (sn : Int) (hsn : sn < 0) (HG : ∀ w, Calls Try.prog 32 #[.agg #[.int .u64 u.a0, .int .u64 u.a1, .int .u64 u.a2, .int .u64 u.a3, .int .u64 u.a4, .int .u64 u.a5, .int .u64 u.a6, .int .u64 u.a7]] w (fun e w' => e = .returned (.int .i64 sn) ∧ Lat w w')) (w : World) :
    Calls Try.prog 25 #[.agg #[.int .u64 s], .agg #[.int .u64 u.a0, .int .u64 u.a1, .int .u64 u.a2, .int .u64 u.a3, .int .u64 u.a4, .int .u64 u.a5, .int .u64 u.a6, .int .u64 u.a7, .int .u64 v.a0, .int .u64 v.a1, .int .u64 v.a2, .int .u64 v.a3, .int .u64 v.a4, .int .u64 v.a5, .int .u64 v.a6, .int .u64 v.a7]] w (CoinEnd w false 0 2) := by
  have hd1 : decide (sn < 0) = true := decide_eq_true hsn
  go_enter Try.func25, Try.ntmps25
  go_wp2_with fail
  refine name3 (Q := fun W => Calls _ _ _ W _) ?_
  intro W1 l1 hs1 k2 k3 k5
  refine (HK W1).mono ?_
  rintro e W2 ⟨rfl, l2⟩
  replace k2 := k2.later l2
  replace k3 := k3.later l2
  replace k5 := k5.later l2
  have L2 := l1.trans l2
  have hs2 : w.heap.size + 3 ≤ W2.heap.size := by have := l2.size; omega
  clear l1 l2 hs1 HK
  have d0 := k3.cell 0
  have d1 := k3.cell 1
  have d2 := k3.cell 2
  have d3 := k3.cell 3
  have d4 := k3.cell 4
  have d5 := k3.cell 5
  have d6 := k3.cell 6
  have d7 := k3.cell 7
  go_wp2_with fail
  refine (HG W2).mono ?_
  rintro e W3 ⟨rfl, l3⟩
  replace k2 := k2.later l3
  replace k3 := k3.later l3
  replace k5 := k5.later l3
  have L3 := L2.trans l3
  have hs3 : w.heap.size + 3 ≤ W3.heap.size := by have := l3.size; omega
  clear d0 d1 d2 d3 d4 d5 d6 d7
  clear l3 L2 hs2 HG
  have c5 : W3.cell? ⟨w.heap.size + 1 + 1, 0, none⟩ = some (.int .u64 0) := k5.cell 0
  have f5 := k5.frozen 0
  have h5 := k5.lt
  go_wp2
  refine name_set (Q := fun W => bodyPost _ _ _ _ _ W) k5 ?_
  intro X3 j5 _ _ l9
  have c6 : X3.cell? ⟨w.heap.size + 1 + 1, 0, none⟩ = some (.int .u64 0) := j5.cell 0
  refine bodyPost_ret (v := .tuple #[.bool false, .agg #[.int .u64 0], .int .i64 2]) (by simp [results, Try.results25, go_sem, c6]) rfl ?_
  exact ⟨rfl, l9.narrow L3 (by omega)⟩

set_option maxRecDepth 100000 in
set_option maxHeartbeats 8000000 in
theorem coin_overK (s : Nat) (u v : W8) (HK : ∀ w, Calls Try.prog 41 #[.agg #[.int .u64 u.a0, .int .u64 u.a1, .int .u64 u.a2, .int .u64 u.a3, .int .u64 u.a4, .int .u64 u.a5, .int .u64 u.a6, .int .u64 u.a7, .int .u64 v.a0, .int .u64 v.a1, .int .u64 v.a2, .int .u64 v.a3, .int .u64 v.a4, .int .u64 v.a5, .int .u64 v.a6, .int .u64 v.a7]] w (fun e w' => e = .returned (.int .i64 0) ∧ Lat w w')) (sn : Int) (hsn : 0 ≤ sn) (HG : ∀ w, Calls Try.prog 32 #[.agg #[.int .u64 u.a0, .int .u64 u.a1, .int .u64 u.a2, .int .u64 u.a3, .int .u64 u.a4, .int .u64 u.a5, .int .u64 u.a6, .int .u64 u.a7]] w (fun e w' => e = .returned (.int .i64 sn) ∧ Lat w w')) (cm : Int) (hcm : 0 < cm) (HC : ∀ w, Calls Try.prog 19 #[.agg #[.int .u64 u.a0, .int .u64 u.a1, .int .u64 u.a2, .int .u64 u.a3, .int .u64 u.a4, .int .u64 u.a5, .int .u64 u.a6, .int .u64 u.a7], .agg #[.int .u64 v.a0, .int .u64 v.a1, .int .u64 v.a2, .int .u64 v.a3, .int .u64 v.a4, .int .u64 v.a5, .int .u64 v.a6, .int .u64 v.a7]] w (fun e w' => e = .returned (.int .i64 cm) ∧ Lat w w')) (w : World) :
    Calls Try.prog 25 #[.agg #[.int .u64 s], .agg #[.int .u64 u.a0, .int .u64 u.a1, .int .u64 u.a2, .int .u64 u.a3, .int .u64 u.a4, .int .u64 u.a5, .int .u64 u.a6, .int .u64 u.a7, .int .u64 v.a0, .int .u64 v.a1, .int .u64 v.a2, .int .u64 v.a3, .int .u64 v.a4, .int .u64 v.a5, .int .u64 v.a6, .int .u64 v.a7]] w (CoinEnd w false 0 2) := by
  have hd1 : decide (sn < 0) = false := decide_eq_false (by omega)
  have hd2 : decide (0 < cm) = true := decide_eq_true hcm
  go_enter Try.func25, Try.ntmps25
  go_wp2_with fail
  refine name3 (Q := fun W => Calls _ _ _ W _) ?_
  intro W1 l1 hs1 k2 k3 k5
  refine (HK W1).mono ?_
  rintro e W2 ⟨rfl, l2⟩
  replace k2 := k2.later l2
  replace k3 := k3.later l2
  replace k5 := k5.later l2
  have L2 := l1.trans l2
  have hs2 : w.heap.size + 3 ≤ W2.heap.size := by have := l2.size; omega
  clear l1 l2 hs1 HK
  have d0 := k3.cell 0
  have d1 := k3.cell 1
  have d2 := k3.cell 2
  have d3 := k3.cell 3
  have d4 := k3.cell 4
  have d5 := k3.cell 5
  have d6 := k3.cell 6
  have d7 := k3.cell 7
  go_wp2_with fail
  refine (HG W2).mono ?_
  rintro e W3 ⟨rfl, l3⟩
  replace k2 := k2.later l3
  replace k3 := k3.later l3
  replace k5 := k5.later l3
  have L3 := L2.trans l3
  have hs3 : w.heap.size + 3 ≤ W3.heap.size := by have := l3.size; omega
  clear d0 d1 d2 d3 d4 d5 d6 d7
  clear l3 L2 hs2 HG
  have d0 := k3.cell 0
  have d1 := k3.cell 1
  have d2 := k3.cell 2
  have d3 := k3.cell 3
  have d4 := k3.cell 4
  have d5 := k3.cell 5
  have d6 := k3.cell 6
  have d7 := k3.cell 7
  have d8 := k3.cell 8
  have d9 := k3.cell 9
  have d10 := k3.cell 10
  have d11 := k3.cell 11
  have d12 := k3.cell 12
  have d13 := k3.cell 13
  have d14 := k3.cell 14
  have d15 := k3.cell 15
  go_wp2_with fail
  refine (HC W3).mono ?_
  rintro e W4 ⟨rfl, l4⟩
  replace k2 := k2.later l4
  replace k3 := k3.later l4
  replace k5 := k5.later l4
  have L4 := L3.trans l4
  have hs4 : w.heap.size + 3 ≤ W4.heap.size := by have := l4.size; omega
  clear d0 d1 d2 d3 d4 d5 d6 d7 d8 d9 d10 d11 d12 d13 d14 d15
  clear l4 L3 hs3 HC
  have c5 : W4.cell? ⟨w.heap.size + 1 + 1, 0, none⟩ = some (.int .u64 0) := k5.cell 0
  have f5 := k5.frozen 0
  have h5 := k5.lt
  go_wp2
  refine name_set (Q := fun W => bodyPost _ _ _ _ _ W) k5 ?_
  intro X3 j5 _ _ l9
  have c6 : X3.cell? ⟨w.heap.size + 1 + 1, 0, none⟩ = some (.int .u64 0) := j5.cell 0
  refine bodyPost_ret (v := .tuple #[.bool false, .agg #[.int .u64 0], .int .i64 2]) (by simp [results, Try.results25, go_sem, c6]) rfl ?_
  exact ⟨rfl, l9.narrow L4 (by omega)⟩

def ckTab (o1 w0 w2 w3 wx wf wm : W8) : List (List Value) := [[.int .u64 w0.a0, .int .u64 w0.a1, .int .u64 w0.a2, .int .u64 w0.a3, .int .u64 w0.a4, .int .u64 w0.a5, .int .u64 w0.a6, .int .u64 w0.a7, .int .u64 o1.a0, .int .u64 o1.a1, .int .u64 o1.a2, .int .u64 o1.a3, .int .u64 o1.a4, .int .u64 o1.a5, .int .u64 o1.a6, .int .u64 o1.a7, .bool false, .int .i64 0], [.int .u64 o1.a0, .int .u64 o1.a1, .int .u64 o1.a2, .int .u64 o1.a3, .int .u64 o1.a4, .int .u64 o1.a5, .int .u64 o1.a6, .int .u64 o1.a7, .int .u64 o1.a0, .int .u64 o1.a1, .int .u64 o1.a2, .int .u64 o1.a3, .int .u64 o1.a4, .int .u64 o1.a5, .int .u64 o1.a6, .int .u64 o1.a7, .bool true, .int .i64 0], [.int .u64 wm.a0, .int .u64 wm.a1, .int .u64 wm.a2, .int .u64 wm.a3, .int .u64 wm.a4, .int .u64 wm.a5, .int .u64 wm.a6, .int .u64 wm.a7, .int .u64 w2.a0, .int .u64 w2.a1, .int .u64 w2.a2, .int .u64 w2.a3, .int .u64 w2.a4, .int .u64 w2.a5, .int .u64 w2.a6, .int .u64 w2.a7, .bool false, .int .i64 2], [.int .u64 w3.a0, .int .u64 w3.a1, .int .u64 w3.a2, .int .u64 w3.a3, .int .u64 w3.a4, .int .u64 w3.a5, .int .u64 w3.a6, .int .u64 w3.a7, .int .u64 w2.a0, .int .u64 w2.a1, .int .u64 w2.a2, .int .u64 w2.a3, .int .u64 w2.a4, .int .u64 w2.a5, .int .u64 w2.a6, .int .u64 w2.a7, .bool false, .int .i64 2], [.int .u64 W8.zero.a0, .int .u64 W8.zero.a1, .int .u64 W8.zero.a2, .int .u64 W8.zero.a3, .int .u64 W8.zero.a4, .int .u64 W8.zero.a5, .int .u64 W8.zero.a6, .int .u64 W8.zero.a7, .int .u64 W8.zero.a0, .int .u64 W8.zero.a1, .int .u64 W8.zero.a2, .int .u64 W8.zero.a3, .int .u64 W8.zero.a4, .int .u64 W8.zero.a5, .int .u64 W8.zero.a6, .int .u64 W8.zero.a7, .bool false, .int .i64 20], [.int .u64 o1.a0, .int .u64 o1.a1, .int .u64 o1.a2, .int .u64 o1.a3, .int .u64 o1.a4, .int .u64 o1.a5, .int .u64 o1.a6, .int .u64 o1.a7, .int .u64 wx.a0, .int .u64 wx.a1, .int .u64 wx.a2, .int .u64 wx.a3, .int .u64 wx.a4, .int .u64 wx.a5, .int .u64 wx.a6, .int .u64 wx.a7, .bool false, .int .i64 0], [.int .u64 wf.a0, .int .u64 wf.a1, .int .u64 wf.a2, .int .u64 wf.a3, .int .u64 wf.a4, .int .u64 wf.a5, .int .u64 wf.a6, .int .u64 wf.a7, .int .u64 wx.a0, .int .u64 wx.a1, .int .u64 wx.a2, .int .u64 wx.a3, .int .u64 wx.a4, .int .u64 wx.a5, .int .u64 wx.a6, .int .u64 wx.a7, .bool false, .int .i64 0]]
theorem ckShares {o1 : W8} (ho : o1 = W8.of 1) : ∃ w0 w2 w3 wx wf wm : W8,
    (∀ x ∈ ckTab o1 w0 w2 w3 wx wf wm, ∃ N D up er, x = [.int .u64 N.a0, .int .u64 N.a1, .int .u64 N.a2, .int .u64 N.a3, .int .u64 N.a4, .int .u64 N.a5, .int .u64 N.a6, .int .u64 N.a7, .int .u64 D.a0, .int .u64 D.a1, .int .u64 D.a2, .int .u64 D.a3, .int .u64 D.a4, .int .u64 D.a5, .int .u64 D.a6, .int .u64 D.a7, .bool up, .int .i64 er] ∧ CkRow o1 N D up er) ∧
    (∀ w, Calls Try.prog 24 #[.int .i64 0, .int .i64 1] w (fun e w' => e = .returned (.agg #[.int .u64 w0.a0, .int .u64 w0.a1, .int .u64 w0.a2, .int .u64 w0.a3, .int .u64 w0.a4, .int .u64 w0.a5, .int .u64 w0.a6, .int .u64 w0.a7, .int .u64 o1.a0, .int .u64 o1.a1, .int .u64 o1.a2, .int .u64 o1.a3, .int .u64 o1.a4, .int .u64 o1.a5, .int .u64 o1.a6, .int .u64 o1.a7]) ∧ Lat w w')) ∧
    (∀ w, Calls Try.prog 24 #[.int .i64 1, .int .i64 1] w (fun e w' => e = .returned (.agg #[.int .u64 o1.a0, .int .u64 o1.a1, .int .u64 o1.a2, .int .u64 o1.a3, .int .u64 o1.a4, .int .u64 o1.a5, .int .u64 o1.a6, .int .u64 o1.a7, .int .u64 o1.a0, .int .u64 o1.a1, .int .u64 o1.a2, .int .u64 o1.a3, .int .u64 o1.a4, .int .u64 o1.a5, .int .u64 o1.a6, .int .u64 o1.a7]) ∧ Lat w w')) ∧
    (∀ w, Calls Try.prog 24 #[.int .i64 (-1), .int .i64 2] w (fun e w' => e = .returned (.agg #[.int .u64 wm.a0, .int .u64 wm.a1, .int .u64 wm.a2, .int .u64 wm.a3, .int .u64 wm.a4, .int .u64 wm.a5, .int .u64 wm.a6, .int .u64 wm.a7, .int .u64 w2.a0, .int .u64 w2.a1, .int .u64 w2.a2, .int .u64 w2.a3, .int .u64 w2.a4, .int .u64 w2.a5, .int .u64 w2.a6, .int .u64 w2.a7]) ∧ Lat w w')) ∧
    (∀ w, Calls Try.prog 24 #[.int .i64 3, .int .i64 2] w (fun e w' => e = .returned (.agg #[.int .u64 w3.a0, .int .u64 w3.a1, .int .u64 w3.a2, .int .u64 w3.a3, .int .u64 w3.a4, .int .u64 w3.a5, .int .u64 w3.a6, .int .u64 w3.a7, .int .u64 w2.a0, .int .u64 w2.a1, .int .u64 w2.a2, .int .u64 w2.a3, .int .u64 w2.a4, .int .u64 w2.a5, .int .u64 w2.a6, .int .u64 w2.a7]) ∧ Lat w w')) ∧
    (∀ w, Calls Try.prog 24 #[.int .i64 1, .int .i64 16] w (fun e w' => e = .returned (.agg #[.int .u64 o1.a0, .int .u64 o1.a1, .int .u64 o1.a2, .int .u64 o1.a3, .int .u64 o1.a4, .int .u64 o1.a5, .int .u64 o1.a6, .int .u64 o1.a7, .int .u64 wx.a0, .int .u64 wx.a1, .int .u64 wx.a2, .int .u64 wx.a3, .int .u64 wx.a4, .int .u64 wx.a5, .int .u64 wx.a6, .int .u64 wx.a7]) ∧ Lat w w')) ∧
    (∀ w, Calls Try.prog 24 #[.int .i64 15, .int .i64 16] w (fun e w' => e = .returned (.agg #[.int .u64 wf.a0, .int .u64 wf.a1, .int .u64 wf.a2, .int .u64 wf.a3, .int .u64 wf.a4, .int .u64 wf.a5, .int .u64 wf.a6, .int .u64 wf.a7, .int .u64 wx.a0, .int .u64 wx.a1, .int .u64 wx.a2, .int .u64 wx.a3, .int .u64 wx.a4, .int .u64 wx.a5, .int .u64 wx.a6, .int .u64 wx.a7]) ∧ Lat w w')) := by
  subst ho
  have hP : (1000 : Int) < P511 := by decide
  have hT : ∀ z : Int, -1000 ≤ z → z ≤ 1000 → (W8.of z).toInt = z := fun z h1 h2 => W8.of_toInt (by omega) (by omega)
  have hKK : ∀ N D : Int, ShOk N D → -1000 ≤ N → N ≤ 1000 → D ≤ 1000 → ∀ w, Calls Try.prog 41 #[.agg #[.int .u64 (W8.of N).a0, .int .u64 (W8.of N).a1, .int .u64 (W8.of N).a2, .int .u64 (W8.of N).a3, .int .u64 (W8.of N).a4, .int .u64 (W8.of N).a5, .int .u64 (W8.of N).a6, .int .u64 (W8.of N).a7, .int .u64 (W8.of D).a0, .int .u64 (W8.of D).a1, .int .u64 (W8.of D).a2, .int .u64 (W8.of D).a3, .int .u64 (W8.of D).a4, .int .u64 (W8.of D).a5, .int .u64 (W8.of D).a6, .int .u64 (W8.of D).a7]] w (fun e w' => e = .returned (.int .i64 0) ∧ Lat w w') := fun N D h b1 b2 b3 w =>
    shCheck_ok (W8.of N) (W8.of D) (W8.of_ok _) (W8.of_ok _) (by have := h.1; rw [hT N b1 b2, hT D (by omega) b3]; exact h) w
  have r1 : CkRow (W8.of 1) (W8.of 0) (W8.of 1) false 0 := by
    have h := ck_ok (N := 0) (D := 1) ⟨by decide, by decide⟩ (by decide) lk1.2.2 (.inl ⟨rfl, lk1.2.1⟩) (by rw [lk1.2.1]; decide)
    rw [lk1.1] at h
    exact h
  have r2 : CkRow (W8.of 1) (W8.of 1) (W8.of 1) true 0 := by
    have h := ck_ok (N := 1) (D := 1) ⟨by decide, by decide⟩ (by decide) lk1.2.2 (.inl ⟨rfl, lk1.2.1⟩) (by rw [lk1.2.1]; decide)
    rw [lk1.1] at h
    exact h
  have r6 : CkRow (W8.of 1) (W8.of 1) (W8.of 16) false 0 := by
    have h := ck_ok (N := 1) (D := 16) ⟨by decide, by decide⟩ (by decide) ck16.2.1 (.inr ⟨by decide, ck16.2.2.1⟩) ck16.2.2.2
    rw [ck16.1] at h
    exact h
  have r7 : CkRow (W8.of 1) (W8.of 15) (W8.of 16) false 0 := by
    have h := ck_ok (N := 15) (D := 16) ⟨by decide, by decide⟩ (by decide) ck16.2.1 (.inr ⟨by decide, ck16.2.2.1⟩) ck16.2.2.2
    rw [ck16.1] at h
    exact h
  have s3 := fun w => wSign_any (W8.of (-1)) (W8.of_ok _) w
  have r3 : CkRow (W8.of 1) (W8.of (-1)) (W8.of 2) false 2 := ck_bad (by decide) fun w => coin_negK 0 _ _ (hKK (-1) 2 ⟨by decide, by decide⟩ (by decide) (by decide) (by decide)) _ (by rw [hT (-1) (by decide) (by decide)]; decide) s3 w
  have r4 : CkRow (W8.of 1) (W8.of 3) (W8.of 2) false 2 := ck_bad (by decide) fun w => coin_overK 0 _ _ (hKK 3 2 ⟨by decide, by decide⟩ (by decide) (by decide) (by decide)) _ (by rw [hT 3 (by decide) (by decide)]; decide) (fun w => wSign_any (W8.of 3) (W8.of_ok _) w) _ (by rw [hT 3 (by decide) (by decide), hT 2 (by decide) (by decide)]; decide) (fun w => wCmp_any (W8.of 3) (W8.of 2) (W8.of_ok _) (W8.of_ok _) w) w
  have r5 : CkRow (W8.of 1) W8.zero W8.zero false 20 := ck_bad (by decide) fun w => coin_badK 0 _ _ (fun w => shCheck_bad W8.zero W8.zero W8.zero_ok W8.zero_ok (fun h => by have := h.1; rw [show W8.zero.toInt = 0 by decide] at this; omega) w) w
  refine ⟨W8.of 0, W8.of 2, W8.of 3, W8.of 16, W8.of 15, W8.of (-1), fun x hx => ?_, fun w => q_is 0 1 0 1 (by decide) (by decide) (by decide) (by decide) (by decide) w, fun w => q_is 1 1 1 1 (by decide) (by decide) (by decide) (by decide) (by decide) w,
    fun w => q_is (-1) 2 (-1) 2 (by decide) (by decide) (by decide) (by decide) (by decide) w, fun w => q_is 3 2 3 2 (by decide) (by decide) (by decide) (by decide) (by decide) w, fun w => q_is 1 16 1 16 (by decide) (by decide) (by decide) (by decide) (by decide) w, fun w => q_is 15 16 15 16 (by decide) (by decide) (by decide) (by decide) (by decide) w⟩
  simp only [ckTab, List.mem_cons, List.not_mem_nil, or_false] at hx
  rcases hx with rfl | rfl | rfl | rfl | rfl | rfl | rfl
  · exact ⟨_, _, _, _, rfl, r1⟩
  · exact ⟨_, _, _, _, rfl, r2⟩
  · exact ⟨_, _, _, _, rfl, r3⟩
  · exact ⟨_, _, _, _, rfl, r4⟩
  · exact ⟨_, _, _, _, rfl, r5⟩
  · exact ⟨_, _, _, _, rfl, r6⟩
  · exact ⟨_, _, _, _, rfl, r7⟩
theorem ckRows {W : World} {g : Nat} {o1 w0 w2 w3 wx wf wm : W8} (h : Blk W g 57 #[.int .u64 w0.a0, .int .u64 w0.a1, .int .u64 w0.a2, .int .u64 w0.a3, .int .u64 w0.a4, .int .u64 w0.a5, .int .u64 w0.a6, .int .u64 w0.a7, .int .u64 o1.a0, .int .u64 o1.a1, .int .u64 o1.a2, .int .u64 o1.a3, .int .u64 o1.a4, .int .u64 o1.a5, .int .u64 o1.a6, .int .u64 o1.a7, .bool false, .int .i64 0, .int .u64 o1.a0, .int .u64 o1.a1, .int .u64 o1.a2, .int .u64 o1.a3, .int .u64 o1.a4, .int .u64 o1.a5, .int .u64 o1.a6, .int .u64 o1.a7, .int .u64 o1.a0, .int .u64 o1.a1, .int .u64 o1.a2, .int .u64 o1.a3, .int .u64 o1.a4, .int .u64 o1.a5, .int .u64 o1.a6, .int .u64 o1.a7, .bool true, .int .i64 0, .int .u64 wm.a0, .int .u64 wm.a1, .int .u64 wm.a2, .int .u64 wm.a3, .int .u64 wm.a4, .int .u64 wm.a5, .int .u64 wm.a6, .int .u64 wm.a7, .int .u64 w2.a0, .int .u64 w2.a1, .int .u64 w2.a2, .int .u64 w2.a3, .int .u64 w2.a4, .int .u64 w2.a5, .int .u64 w2.a6, .int .u64 w2.a7, .bool false, .int .i64 2, .int .u64 w3.a0, .int .u64 w3.a1, .int .u64 w3.a2, .int .u64 w3.a3, .int .u64 w3.a4, .int .u64 w3.a5, .int .u64 w3.a6, .int .u64 w3.a7, .int .u64 w2.a0, .int .u64 w2.a1, .int .u64 w2.a2, .int .u64 w2.a3, .int .u64 w2.a4, .int .u64 w2.a5, .int .u64 w2.a6, .int .u64 w2.a7, .bool false, .int .i64 2, .int .u64 W8.zero.a0, .int .u64 W8.zero.a1, .int .u64 W8.zero.a2, .int .u64 W8.zero.a3, .int .u64 W8.zero.a4, .int .u64 W8.zero.a5, .int .u64 W8.zero.a6, .int .u64 W8.zero.a7, .int .u64 W8.zero.a0, .int .u64 W8.zero.a1, .int .u64 W8.zero.a2, .int .u64 W8.zero.a3, .int .u64 W8.zero.a4, .int .u64 W8.zero.a5, .int .u64 W8.zero.a6, .int .u64 W8.zero.a7, .bool false, .int .i64 20, .int .u64 o1.a0, .int .u64 o1.a1, .int .u64 o1.a2, .int .u64 o1.a3, .int .u64 o1.a4, .int .u64 o1.a5, .int .u64 o1.a6, .int .u64 o1.a7, .int .u64 wx.a0, .int .u64 wx.a1, .int .u64 wx.a2, .int .u64 wx.a3, .int .u64 wx.a4, .int .u64 wx.a5, .int .u64 wx.a6, .int .u64 wx.a7, .bool false, .int .i64 0, .int .u64 wf.a0, .int .u64 wf.a1, .int .u64 wf.a2, .int .u64 wf.a3, .int .u64 wf.a4, .int .u64 wf.a5, .int .u64 wf.a6, .int .u64 wf.a7, .int .u64 wx.a0, .int .u64 wx.a1, .int .u64 wx.a2, .int .u64 wx.a3, .int .u64 wx.a4, .int .u64 wx.a5, .int .u64 wx.a6, .int .u64 wx.a7, .bool false, .int .i64 0]) :
    RowM W (some ⟨g, 0, none⟩) 18 7 (ckTab o1 w0 w2 w3 wx wf wm) := by
  have h8 : ∀ x ∈ ckTab o1 w0 w2 w3 wx wf wm, x.length = 18 := by
    intro x hx
    simp only [ckTab, List.mem_cons, List.not_mem_nil, or_false] at hx
    rcases hx with rfl | rfl | rfl | rfl | rfl | rfl | rfl <;> rfl
  refine ⟨rfl, h8, fun _ => ⟨g, 0, rfl, h.lt, fun i x hx j v hv => ?_⟩⟩
  rw [h.cell, Nat.zero_add]
  have := flat_get h8 hx hv
  rw [← List.getElem?_toArray] at this
  exact this
set_option maxRecDepth 100000 in
set_option maxHeartbeats 8000000 in
theorem cKnown_any (w : World) : Calls Try.prog 6 #[] w (fun e w' => e = .returned (.bool true) ∧ Lat w w') := by
  go_enter Try.func6, Try.ntmps6
  go_wp2_with fail
  refine (works_any w).mono ?_
  rintro e V0 ⟨rfl, l0⟩
  go_upto_region 4 with (fail)
  refine name1 (Q := fun W => Code.wp _ _ _ _ W) ?_
  intro V1 la hs k1
  obtain ⟨g1, hg1⟩ : ∃ z, V0.heap.size = z := ⟨_, rfl⟩
  have hb_1 : w.heap.size ≤ g1 := by rw [← hg1]; exact l0.size
  rw [hg1] at k1 ⊢
  replace l0 := l0.trans la
  clear la hs hg1
  go_upto_region 5 with (fail)
  refine name1 (Q := fun W => Code.wp _ _ _ _ W) ?_
  intro V2 la hs k2
  obtain ⟨g2, hg2⟩ : ∃ z, V1.heap.size = z := ⟨_, rfl⟩
  have hb_2 : w.heap.size ≤ g2 := by rw [← hg2]; exact l0.size
  rw [hg2] at k2 ⊢
  replace k1 := k1.later la
  replace l0 := l0.trans la
  clear la hs hg2
  go_upto_region 6 with (fail)
  refine name1 (Q := fun W => Code.wp _ _ _ _ W) ?_
  intro V3 la hs k3
  obtain ⟨g3, hg3⟩ : ∃ z, V2.heap.size = z := ⟨_, rfl⟩
  have hb_3 : w.heap.size ≤ g3 := by rw [← hg3]; exact l0.size
  rw [hg3] at k3 ⊢
  replace k1 := k1.later la
  replace k2 := k2.later la
  replace l0 := l0.trans la
  clear la hs hg3
  obtain ⟨lw, hlw⟩ : ∃ u, u = leastW := ⟨_, rfl⟩
  obtain ⟨mw, hmw⟩ : ∃ u, u = mostW := ⟨_, rfl⟩
  have k2 : Blk V3 g2 44 #[.int .u64 lw.a0, .int .u64 lw.a1, .int .u64 lw.a2, .int .u64 lw.a3, .int .u64 lw.a4, .int .u64 lw.a5, .int .u64 lw.a6, .int .u64 lw.a7] := by rw [hlw]; exact k2
  have k3 : Blk V3 g3 44 #[.int .u64 mw.a0, .int .u64 mw.a1, .int .u64 mw.a2, .int .u64 mw.a3, .int .u64 mw.a4, .int .u64 mw.a5, .int .u64 mw.a6, .int .u64 mw.a7] := by rw [hmw]; exact k3
  obtain ⟨zw, hzw⟩ : ∃ u, u = W8.of 0 := ⟨_, rfl⟩
  obtain ⟨bw, hbw⟩ : ∃ u, u = W8.of (widV 0 (P511 - 1)) := ⟨_, rfl⟩
  have HM := ckFacts hlw hmw hzw hbw
  obtain ⟨HW0, HWL, tw, HWM, cv, hcv, HCM⟩ := HM
  have HT := Lib.hid hmw
  clear hlw hmw hzw hbw
  have yk1_0 := k1.cell 0
  go_wp2_with fail
  refine (HW0 V3).mono ?_
  rintro e V4 ⟨rfl, la⟩
  clear yk1_0 HW0
  replace k1 := k1.later la
  replace k2 := k2.later la
  replace k3 := k3.later la
  replace l0 := l0.trans la
  clear la
  go_upto_region 7 with (fail)
  refine name2 (Q := fun W => Code.wp _ _ _ _ W) ?_
  intro V5 la hs k4 k5
  obtain ⟨g5, hg5⟩ : ∃ z, V4.heap.size + 1 = z := ⟨_, rfl⟩
  obtain ⟨g4, hg4⟩ : ∃ z, V4.heap.size = z := ⟨_, rfl⟩
  have h4_5 : g4 < g5 := by omega
  have hb_4 : w.heap.size ≤ g4 := by rw [← hg4]; exact l0.size
  rw [hg5] at k5 ⊢
  rw [hg4] at k4 ⊢
  replace k1 := k1.later la
  replace k2 := k2.later la
  replace k3 := k3.later la
  replace l0 := l0.trans la
  clear la hs hg4 hg5
  have yk1_0 := k1.cell 0
  have yk2_0 := k2.cell 0
  have yk2_1 := k2.cell 1
  have yk2_2 := k2.cell 2
  have yk2_3 := k2.cell 3
  have yk2_4 := k2.cell 4
  have yk2_5 := k2.cell 5
  have yk2_6 := k2.cell 6
  have yk2_7 := k2.cell 7
  go_wp2_with fail
  refine (HWL V5).mono ?_
  rintro e V6 ⟨rfl, la⟩
  clear yk1_0 yk2_0 yk2_1 yk2_2 yk2_3 yk2_4 yk2_5 yk2_6 yk2_7 HWL
  replace k1 := k1.later la
  replace k2 := k2.later la
  replace k3 := k3.later la
  replace k4 := k4.later la
  replace k5 := k5.later la
  replace l0 := l0.trans la
  clear la
  go_upto_region 8 with (fail)
  refine name2 (Q := fun W => Code.wp _ _ _ _ W) ?_
  intro V7 la hs k7 k8
  obtain ⟨g8, hg8⟩ : ∃ z, V6.heap.size + 1 = z := ⟨_, rfl⟩
  obtain ⟨g7, hg7⟩ : ∃ z, V6.heap.size = z := ⟨_, rfl⟩
  have h7_8 : g7 < g8 := by omega
  have hb_7 : w.heap.size ≤ g7 := by rw [← hg7]; exact l0.size
  rw [hg8] at k8 ⊢
  rw [hg7] at k7 ⊢
  replace k1 := k1.later la
  replace k2 := k2.later la
  replace k3 := k3.later la
  replace k4 := k4.later la
  replace k5 := k5.later la
  replace l0 := l0.trans la
  clear la hs hg7 hg8
  clear k7 k8 k2
  have yk1_0 := k1.cell 0
  have yk3_0 := k3.cell 0
  have yk3_1 := k3.cell 1
  have yk3_2 := k3.cell 2
  have yk3_3 := k3.cell 3
  have yk3_4 := k3.cell 4
  have yk3_5 := k3.cell 5
  have yk3_6 := k3.cell 6
  have yk3_7 := k3.cell 7
  go_wp2_with fail
  refine (HWM V7).mono ?_
  rintro e V8 ⟨rfl, la⟩
  clear yk1_0 yk3_0 yk3_1 yk3_2 yk3_3 yk3_4 yk3_5 yk3_6 yk3_7 HWM
  replace k1 := k1.later la
  replace k3 := k3.later la
  replace k4 := k4.later la
  replace k5 := k5.later la
  replace l0 := l0.trans la
  clear la
  go_upto_region 9 with (fail)
  refine name2 (Q := fun W => Code.wp _ _ _ _ W) ?_
  intro V9 la hs k10 k11
  obtain ⟨g11, hg11⟩ : ∃ z, V8.heap.size + 1 = z := ⟨_, rfl⟩
  obtain ⟨g10, hg10⟩ : ∃ z, V8.heap.size = z := ⟨_, rfl⟩
  have h10_11 : g10 < g11 := by omega
  have hb_10 : w.heap.size ≤ g10 := by rw [← hg10]; exact l0.size
  rw [hg11] at k11 ⊢
  rw [hg10] at k10 ⊢
  replace k1 := k1.later la
  replace k3 := k3.later la
  replace k4 := k4.later la
  replace k5 := k5.later la
  replace l0 := l0.trans la
  clear la hs hg10 hg11
  clear k11 k4
  have R1 : ∀ w', Lat V9 w' → w'.rangeAt g1 0 [.int .u64 0] := fun w' hl => (k1.later hl).rangeAll
  have R5 : ∀ w', Lat V9 w' → w'.rangeAt g5 0 [.int .u64 0] := fun w' hl => (k5.later hl).rangeAll
  have R10 : ∀ w', Lat V9 w' → w'.rangeAt g10 0 [.int .u64 bw.a0, .int .u64 bw.a1, .int .u64 bw.a2, .int .u64 bw.a3, .int .u64 bw.a4, .int .u64 bw.a5, .int .u64 bw.a6, .int .u64 bw.a7] := fun w' hl => (k10.later hl).rangeAll
  have R3 : ∀ w', Lat V9 w' → w'.rangeAt g3 0 [.int .u64 mw.a0, .int .u64 mw.a1, .int .u64 mw.a2, .int .u64 mw.a3, .int .u64 mw.a4, .int .u64 mw.a5, .int .u64 mw.a6, .int .u64 mw.a7] := fun w' hl => (k3.later hl).rangeAll
  obtain ⟨J24, J44, hgd24, HE24⟩ := ckGuards
  have HB1 := ckBelow1
  have HB2 := ckBelow2
  go_upto_region 9 with (fail)
  rename_i KN hKN
  refine wp_region_slots (ck9_rows mw bw cv g1 g3 g5 g10) (ck9_base mw bw cv g1 g3 g5 g10 _ _ _ _ _ _ _ _ _ _ _ _ _ _ _ _ _ _ _ _ _ _ _ _ _ _ _ _ _ _ _ _ _ _ _ _ _ _ _ _ _ _ _ _ _ _ _ _ _ _ _ _ _ _ _ _ _ _ _ _ _ _ _ _ _ _ _ _ _ _ _ _ _ _ _ _ _ _ _ _ _ _ _ _ _ _ _ _ _ _ _ _ _ _ _ _ _ _ _ _ _ _ _ _ _ _ _ _ _ _ _ _ _ _ _ _ _ _ _ _ _ _ _ _ _ _ _ _ _ _ _ _ _ _ _ _ _ _ _ _ _ _ _ _ _ _ _ _ _ _ _ _ _ _ _ _ _ _ _ _ _ _ _ _ _ _ _ _ _ _ _ _ _ _ _ _ _ _ _ _ _ _ _ _ _ _ _ _ _ _ _ _ _ _ _ _ _ _ _ _ _ _ _ _ _ _ _ _ _ _ _ _ _ _ _ _ _ _ _ _ _ _ _ _ _ _ _ _ _ _ _ _ _ _ _ _ _ _ _ _ _ _ _ _ _ _ _ _ _ _ _ _ _ _ _ _ _ _ _ _ _ _ _ _ _ _) 313 40 [[], [0], [1], [2], [2], [3, 4, 2], [2, 5], [6, 2], [7], [8, 7], [7, 9], [10, 7], [11], [12, 11], [11, 13], [14, 11], [15], [15], [16, 17, 15, 15], [18, 15], [15, 19], [20, 18], [21, 21], [21], [23, 22, 21], [24, 21], [24, 21], [24, 21], [22, 25, 26, 27, 24, 21], [21, 28], [29, 28], [30, 30], [30], [32, 31, 30], [33, 30], [33, 30], [33, 30], [31, 34, 35, 36, 33, 30], [30, 37], [38, 37, 0, 1, 2, 3, 4, 5, 6, 7, 8, 9, 10, 11, 12, 13, 14, 15, 16, 17, 18, 19, 20, 21, 22, 23, 24, 25, 26, 27, 28, 29, 30, 31, 32, 33, 34, 35, 36, 37, 38]] (by kernel_rfl) (by kernel_rfl) (by kernel_rfl) (by kernel_rfl) (by kernel_rfl) (by kernel_rfl) (by rfl) rfl (base_of (base_cons rfl (base_cons rfl (base_cons rfl (base_cons rfl (base_cons rfl (base_cons rfl (base_cons rfl (base_cons rfl (base_cons rfl (base_cons rfl (base_cons rfl (base_cons rfl (base_cons rfl (base_cons rfl (base_cons rfl (base_cons rfl (base_cons rfl (base_cons rfl (base_cons rfl (base_cons rfl (base_cons rfl (base_cons rfl (base_cons rfl (base_cons rfl (base_cons rfl (base_cons rfl (base_cons rfl (base_cons rfl (base_cons rfl (base_cons rfl (base_cons rfl (base_cons rfl (base_cons rfl (base_cons rfl (base_cons rfl (base_cons rfl (base_cons rfl (base_cons rfl (base_cons rfl (base_cons rfl (base_cons rfl (base_cons rfl (base_cons rfl (base_cons rfl (base_cons rfl (base_cons rfl (base_cons rfl (base_cons rfl (base_cons rfl (base_cons rfl (base_cons rfl (base_cons rfl (base_cons rfl (base_cons rfl (base_cons rfl (base_cons rfl (base_cons rfl (base_cons rfl (base_cons rfl (base_cons rfl (base_cons rfl (base_cons rfl (base_cons rfl (base_cons rfl (base_cons rfl (base_cons rfl (base_cons rfl (base_cons rfl (base_cons rfl (base_cons rfl (base_cons rfl (base_cons rfl (base_cons rfl (base_cons rfl (base_cons rfl (base_cons rfl (base_cons rfl (base_cons rfl (base_cons rfl (base_cons rfl (base_cons rfl (base_cons rfl (base_cons rfl (base_cons rfl (base_cons rfl (base_cons rfl (base_cons rfl (base_cons rfl (base_cons rfl (base_cons rfl (base_cons rfl (base_cons rfl (base_cons rfl (base_cons rfl (base_cons rfl (base_cons rfl (base_cons rfl (base_cons rfl (base_cons rfl (base_cons rfl (base_cons rfl (base_cons rfl (base_cons rfl (base_cons rfl (base_cons rfl (base_cons rfl (base_cons rfl (base_cons rfl (base_cons rfl (base_cons rfl (base_cons rfl (base_cons rfl (base_cons rfl (base_cons rfl (base_cons rfl (base_cons rfl (base_cons rfl (base_cons rfl (base_cons rfl (base_cons rfl (base_cons rfl (base_cons rfl (base_cons rfl (base_cons rfl (base_cons rfl (base_cons rfl (base_cons rfl (base_cons rfl (base_cons rfl (base_cons rfl (base_cons rfl (base_cons rfl (base_cons rfl (base_cons rfl (base_cons rfl (base_cons rfl (base_cons rfl (base_cons rfl (base_cons rfl (base_cons rfl (base_cons rfl (base_cons rfl (base_cons rfl (base_cons rfl (base_cons rfl (base_cons rfl (base_cons rfl (base_cons rfl (base_cons rfl (base_cons rfl (base_cons rfl (base_cons rfl (base_cons rfl (base_cons rfl (base_cons rfl (base_cons rfl (base_cons rfl (base_cons rfl (base_cons rfl (base_cons rfl (base_cons rfl (base_cons rfl (base_cons rfl (base_cons rfl (base_cons rfl (base_cons rfl (base_cons rfl (base_cons rfl (base_cons rfl (base_cons rfl (base_cons rfl (base_cons rfl (base_cons rfl (base_cons rfl (base_cons rfl (base_cons rfl (base_cons rfl (base_cons rfl (base_cons rfl (base_cons rfl (base_cons rfl (base_cons rfl (base_cons rfl (base_cons rfl (base_cons rfl (base_cons rfl (base_cons rfl (base_cons rfl (base_cons rfl (base_cons rfl (base_cons rfl (base_cons rfl (base_cons rfl (base_cons rfl (base_cons rfl (base_cons rfl (base_cons rfl (base_cons rfl (base_cons rfl (base_cons rfl (base_cons rfl (base_cons rfl (base_cons rfl (base_cons rfl (base_cons rfl (base_cons rfl (base_cons rfl (base_cons rfl (base_cons rfl (base_cons rfl (base_cons rfl (base_cons rfl (base_cons rfl (base_cons rfl (base_cons rfl (base_cons rfl (base_cons rfl (base_cons rfl (base_cons rfl (base_cons rfl (base_cons rfl (base_cons rfl (base_cons rfl (base_cons rfl (base_cons rfl (base_cons rfl (base_cons rfl (base_cons rfl (base_cons rfl (base_cons rfl (base_cons rfl (base_cons rfl (base_cons rfl (base_cons rfl (base_cons rfl (base_cons rfl (base_cons rfl (base_cons rfl (base_cons rfl (base_cons rfl (base_cons rfl (base_cons rfl (base_cons rfl (base_cons rfl (base_cons rfl (base_cons rfl (base_cons rfl (base_cons rfl (base_cons rfl (base_cons rfl (base_cons rfl (base_cons rfl (base_cons rfl (base_cons rfl (base_cons rfl (base_cons rfl (base_cons rfl (base_cons rfl (base_cons rfl (base_cons rfl (base_cons rfl (base_cons rfl (base_cons rfl (base_cons rfl (base_cons rfl (base_cons rfl (base_cons rfl (base_cons rfl (base_cons rfl (base_cons rfl (base_cons rfl (base_cons rfl (base_cons rfl (base_nil _))))))))))))))))))))))))))))))))))))))))))))))))))))))))))))))))))))))))))))))))))))))))))))))))))))))))))))))))))))))))))))))))))))))))))))))))))))))))))))))))))))))))))))))))))))))))))))))))))))))))))))))))))))))))))))))))))))))))))))))))))))))))))))))))))))))))))))))))))) (ck9_steps V9 mw bw cv g1 g3 g5 g10 _ _ _ _ _ _ _ _ _ _ _ _ _ _ _ _ _ _ _ _ _ _ _ _ _ _ _ _ _ _ _ _ _ _ _ _ _ _ _ _ _ _ _ _ _ _ _ _ _ _ _ _ _ _ _ _ _ _ _ _ _ _ _ _ _ _ _ _ _ _ _ _ _ _ _ _ _ _ _ _ _ _ _ _ _ _ _ _ _ _ _ _ _ _ _ _ _ _ _ _ _ _ _ _ _ _ _ _ _ _ _ _ _ _ _ _ _ _ _ _ _ _ _ _ _ _ _ _ _ _ _ _ _ _ _ _ _ _ _ _ _ _ _ _ _ _ _ _ _ _ _ _ _ _ _ _ _ _ _ _ _ _ _ _ _ _ _ _ _ _ _ _ _ _ _ _ _ _ _ _ _ _ _ _ _ _ _ _ _ _ _ _ _ _ _ _ _ _ _ _ _ _ _ _ _ _ _ _ _ _ _ _ _ _ _ _ _ _ _ _ _ _ _ _ _ _ _ _ _ _ _ _ _ _ _ _ _ _ _ _ _ _ _ _ _ _ _ _ _ _ _ _ _ _ _ _ _ _ _ _ _ _ _ _ _ _ J24 J44 hgd24 HE24 hcv R1 R5 R10 R3 HCM HB1 HB2) ?_
  · intro a9 W9 hsz9 hdf9 hL9 hbs hsl
    obtain ⟨v9, h9, q9⟩ := hsl 39 _ _ rfl rfl
    obtain rfl : v9 = .bool true := q9
    have w13 := slot_getD h9
    clear h9
    refine hKN _ _ ?_
    obtain ⟨T9, df9⟩ := a9
    obtain rfl : df9 = [] := hdf9
    obtain ⟨f, hf, rfl⟩ := spell313 T9 hsz9
    have X9 := fun k v h => (hf k).trans (slot_getD (hbs k v h))
    have x13 := (hf 13).trans w13
    clear hbs hsl hf hsz9 hKN w13
    simp only [X9 1 _ rfl, X9 3 _ rfl, X9 5 _ rfl, X9 10 _ rfl, X9 6 _ rfl, X9 9 _ rfl, X9 12 _ rfl, X9 0 _ rfl, X9 2 _ rfl, X9 4 _ rfl, X9 7 _ rfl, X9 8 _ rfl, X9 11 _ rfl, X9 14 _ rfl, X9 15 _ rfl, X9 16 _ rfl, X9 17 _ rfl, X9 18 _ rfl, X9 19 _ rfl, X9 20 _ rfl, X9 21 _ rfl, X9 22 _ rfl, X9 23 _ rfl, X9 24 _ rfl, X9 25 _ rfl, X9 26 _ rfl, X9 27 _ rfl, X9 28 _ rfl, X9 29 _ rfl, X9 30 _ rfl, X9 31 _ rfl, X9 32 _ rfl, X9 33 _ rfl, X9 34 _ rfl, X9 35 _ rfl, X9 36 _ rfl, X9 37 _ rfl, X9 38 _ rfl, X9 39 _ rfl, X9 40 _ rfl, X9 41 _ rfl, X9 42 _ rfl, X9 43 _ rfl, X9 44 _ rfl, X9 45 _ rfl, X9 46 _ rfl, X9 47 _ rfl, X9 48 _ rfl, X9 49 _ rfl, X9 50 _ rfl, X9 51 _ rfl, X9 52 _ rfl, X9 53 _ rfl, X9 54 _ rfl, X9 55 _ rfl, X9 56 _ rfl, X9 96 _ rfl, X9 97 _ rfl, X9 98 _ rfl, X9 99 _ rfl, X9 100 _ rfl, X9 101 _ rfl, X9 102 _ rfl, X9 103 _ rfl, X9 104 _ rfl, X9 105 _ rfl, X9 106 _ rfl, X9 107 _ rfl, X9 108 _ rfl, X9 109 _ rfl, X9 110 _ rfl, X9 111 _ rfl, X9 112 _ rfl, X9 113 _ rfl, X9 114 _ rfl, X9 115 _ rfl, X9 116 _ rfl, X9 117 _ rfl, X9 118 _ rfl, X9 119 _ rfl, X9 120 _ rfl, X9 121 _ rfl, X9 122 _ rfl, X9 123 _ rfl, X9 124 _ rfl, X9 125 _ rfl, X9 126 _ rfl, X9 127 _ rfl, X9 128 _ rfl, X9 129 _ rfl, X9 130 _ rfl, X9 131 _ rfl, X9 132 _ rfl, X9 133 _ rfl, X9 134 _ rfl, X9 135 _ rfl, X9 136 _ rfl, X9 137 _ rfl, X9 138 _ rfl, X9 139 _ rfl, X9 140 _ rfl, X9 141 _ rfl, X9 142 _ rfl, X9 143 _ rfl, X9 144 _ rfl, X9 145 _ rfl, X9 146 _ rfl, X9 147 _ rfl, X9 148 _ rfl, X9 149 _ rfl, X9 150 _ rfl, X9 151 _ rfl, X9 152 _ rfl, X9 153 _ rfl, X9 154 _ rfl, X9 155 _ rfl, X9 156 _ rfl, X9 157 _ rfl, X9 158 _ rfl, X9 159 _ rfl, X9 160 _ rfl, X9 161 _ rfl, X9 162 _ rfl, X9 163 _ rfl, X9 164 _ rfl, X9 165 _ rfl, X9 166 _ rfl, X9 167 _ rfl, X9 168 _ rfl, X9 169 _ rfl, X9 170 _ rfl, X9 171 _ rfl, X9 172 _ rfl, X9 173 _ rfl, X9 174 _ rfl, X9 175 _ rfl, X9 176 _ rfl, X9 177 _ rfl, X9 178 _ rfl, X9 179 _ rfl, X9 180 _ rfl, X9 181 _ rfl, X9 182 _ rfl, X9 183 _ rfl, X9 184 _ rfl, X9 185 _ rfl, X9 186 _ rfl, X9 187 _ rfl, X9 188 _ rfl, X9 189 _ rfl, X9 190 _ rfl, X9 191 _ rfl, X9 192 _ rfl, X9 193 _ rfl, X9 194 _ rfl, X9 195 _ rfl, X9 196 _ rfl, X9 197 _ rfl, X9 198 _ rfl, X9 199 _ rfl, X9 200 _ rfl, X9 201 _ rfl, X9 202 _ rfl, X9 203 _ rfl, X9 204 _ rfl, X9 205 _ rfl, X9 206 _ rfl, X9 207 _ rfl, X9 208 _ rfl, X9 209 _ rfl, X9 210 _ rfl, X9 211 _ rfl, X9 212 _ rfl, X9 213 _ rfl, X9 214 _ rfl, X9 215 _ rfl, X9 216 _ rfl, X9 217 _ rfl, X9 218 _ rfl, X9 219 _ rfl, X9 220 _ rfl, X9 221 _ rfl, X9 222 _ rfl, X9 223 _ rfl, X9 224 _ rfl, X9 225 _ rfl, X9 226 _ rfl, X9 227 _ rfl, X9 228 _ rfl, X9 229 _ rfl, X9 230 _ rfl, X9 231 _ rfl, X9 232 _ rfl, X9 233 _ rfl, X9 234 _ rfl, X9 235 _ rfl, X9 236 _ rfl, X9 237 _ rfl, X9 238 _ rfl, X9 239 _ rfl, X9 240 _ rfl, X9 241 _ rfl, X9 242 _ rfl, X9 243 _ rfl, X9 244 _ rfl, X9 245 _ rfl, X9 246 _ rfl, X9 247 _ rfl, X9 248 _ rfl, X9 249 _ rfl, X9 250 _ rfl, X9 251 _ rfl, X9 252 _ rfl, X9 253 _ rfl, X9 254 _ rfl, X9 255 _ rfl, X9 256 _ rfl, X9 257 _ rfl, X9 258 _ rfl, X9 259 _ rfl, X9 260 _ rfl, X9 261 _ rfl, X9 262 _ rfl, X9 263 _ rfl, X9 264 _ rfl, X9 265 _ rfl, X9 266 _ rfl, X9 267 _ rfl, X9 268 _ rfl, X9 269 _ rfl, X9 270 _ rfl, X9 271 _ rfl, X9 272 _ rfl, X9 273 _ rfl, X9 274 _ rfl, X9 275 _ rfl, X9 276 _ rfl, X9 277 _ rfl, X9 278 _ rfl, X9 279 _ rfl, X9 280 _ rfl, X9 281 _ rfl, X9 282 _ rfl, X9 283 _ rfl, X9 284 _ rfl, X9 285 _ rfl, X9 286 _ rfl, X9 287 _ rfl, X9 288 _ rfl, X9 289 _ rfl, X9 290 _ rfl, X9 291 _ rfl, X9 292 _ rfl, X9 293 _ rfl, X9 294 _ rfl, X9 295 _ rfl, X9 296 _ rfl, X9 297 _ rfl, X9 298 _ rfl, X9 299 _ rfl, X9 300 _ rfl, X9 301 _ rfl, X9 302 _ rfl, X9 303 _ rfl, X9 304 _ rfl, X9 305 _ rfl, X9 306 _ rfl, X9 307 _ rfl, X9 308 _ rfl, X9 309 _ rfl, X9 310 _ rfl, X9 311 _ rfl, X9 312 _ rfl, x13]
    clear x13 X9
    replace k1 := k1.later hL9
    replace k3 := k3.later hL9
    replace l0 := l0.trans hL9
    obtain ⟨Y9, rfl⟩ : ∃ z, z = W9 := ⟨_, rfl⟩
    clear hL9 R1 R5 R10 R3 HB1 HB2 HCM hcv k5 k10
    obtain ⟨bv, bs, hbv, HBM⟩ := ckBelowM
    have yk1_0 := k1.cell 0
    go_wp2_with fail
    refine (HBM Y9).mono ?_
    rintro e Y10 ⟨rfl, la⟩
    clear yk1_0 HBM
    replace k1 := k1.later la
    replace k3 := k3.later la
    replace l0 := l0.trans la
    clear la
    go_upto_region 11 with (fail)
    refine name1 (Q := fun W => Code.wp _ _ _ _ W) ?_
    intro Y11 la hs k15
    obtain ⟨g15, hg15⟩ : ∃ z, Y10.heap.size = z := ⟨_, rfl⟩
    have hb_15 : w.heap.size ≤ g15 := by rw [← hg15]; exact l0.size
    rw [hg15] at k15 ⊢
    replace k1 := k1.later la
    replace k3 := k3.later la
    replace l0 := l0.trans la
    clear la hs hg15
    clear k15
    go_upto_region 12 with (fail)
    obtain ⟨zs, hmk, hzs⟩ := ckMake
    go_upto_region 13 with (fail)
    clear hmk
    refine name1 (Q := fun W => Code.wp _ _ _ _ W) ?_
    intro Y12 la hs k17
    obtain ⟨g17, hg17⟩ : ∃ z, Y11.heap.size = z := ⟨_, rfl⟩
    have h1_17 : g1 < g17 := by rw [← hg17]; exact k1.lt
    have h3_17 : g3 < g17 := by rw [← hg17]; exact k3.lt
    have hb_17 : w.heap.size ≤ g17 := by rw [← hg17]; exact l0.size
    rw [hg17] at k17 ⊢
    replace k1 := k1.later la
    replace k3 := k3.later la
    replace l0 := l0.trans la
    clear la hs hg17
    have RB := hzs Y12 g17 k17
    have HF := ckOf
    obtain ⟨o1, om, ho1, hom, HO1, HOm⟩ := HF
    have HOO := Lib.hid (And.intro ho1 hom)
    clear ho1 hom
    clear k17
    go_wp2_with fail
    refine (HOm Y12).mono ?_
    rintro e Y13 ⟨rfl, la⟩
    replace k1 := k1.later la
    replace k3 := k3.later la
    replace RB := RB.later la
    replace l0 := l0.trans la
    clear la
    go_wp2_with (refine wpList_setM rfl 44 (.tmp 114) (.tmp 113) (by rfl) (by rfl) RB (i := 400) (by rw [wz_len]; decide) (o := 400 * 8) rfl (by rfl) [.int .u64 om.a0, .int .u64 om.a1, .int .u64 om.a2, .int .u64 om.a3, .int .u64 om.a4, .int .u64 om.a5, .int .u64 om.a6, .int .u64 om.a7] (by rfl) rfl (by kernel_rfl) (by simp [Value.oneCell']) ?_; intro X1 RB1 lp hsz1)
    replace k1 := k1.keepP lp (by omega)
    replace k3 := k3.keepP lp (by omega)
    replace l0 := lp.narrow l0 hb_17
    clear lp hsz1 RB
    have HPL := ckLong g17
    have HPA := ckZeros RB1
    have HPB := ckNeg HOO.out.2 RB1
    have HP3 := ckP3 HT.out HOO.out.2
    have HP2 := ckP2 HT.out HOO.out.1
    have HP1 := ckP1 HOO.out.1
    have HPZ := ckPZ HOO.out.1
    have R1 : ∀ w', Lat X1 w' → w'.rangeAt g1 0 [.int .u64 0] := fun w' hl => (k1.later hl).rangeAll
    have R3 : ∀ w', Lat X1 w' → w'.rangeAt g3 0 [.int .u64 mw.a0, .int .u64 mw.a1, .int .u64 mw.a2, .int .u64 mw.a3, .int .u64 mw.a4, .int .u64 mw.a5, .int .u64 mw.a6, .int .u64 mw.a7] := fun w' hl => (k3.later hl).rangeAll
    clear hbv
    go_upto_region 14 with (fail)
    rename_i KN hKN
    refine wp_region_slotsL (ck14_rows mw o1 om g1 g3 g17) (ck14_base mw o1 om g1 g3 g17 _ _ _ _ _ _ _ _ _ _ _ _ _ _ _ _ _ _ _ _ _ _ _ _ _ _ _ _ _ _ _ _ _ _ _ _ _ _ _ _ _ _ _ _ _ _ _ _ _ _ _ _ _ _ _ _ _ _ _ _ _ _ _ _ _ _ _ _ _ _ _ _ _ _ _ _ _ _ _ _ _ _ _ _ _ _ _ _ _ _ _ _ _ _ _ _ _ _ _ _ _ _ _ _ _ _ _ _ _ _ _ _ _ _ _ _ _ _ _ _ _ _ _ _ _ _ _ _ _ _ _ _ _ _ _ _ _ _ _ _ _ _ _ _ _ _ _ _ _ _ _ _ _ _ _ _ _ _ _ _ _ _ _ _ _ _ _ _ _ _ _ _ _ _ _ _ _ _ _ _ _ _ _ _ _ _ _ _ _ _ _ _ _ _ _ _ _ _ _ _ _ _ _ _ _ _ _ _ _ _ _ _ _ _ _ _ _ _ _ _ _ _ _ _ _ _ _) 313 82 [[], [0], [1, 1], [1], [1], [3, 4, 2, 1], [5, 1], [5, 1], [5, 1], [2, 6, 7, 8, 5, 1], [1, 9], [10, 9], [11, 11], [11], [11], [14, 11], [13, 15, 12, 11], [16, 11], [16, 11], [16, 11], [12, 17, 18, 19, 16, 11], [11, 20], [21, 20], [22, 22], [22], [22], [25, 22], [24, 26, 23, 22], [27, 22], [27, 22], [27, 22], [23, 28, 29, 30, 27, 22], [22, 31], [32, 31], [33, 33], [33], [33], [33], [34, 33], [36, 37, 38, 33], [35, 39, 38, 33], [40, 33], [40, 33], [40, 33], [34, 41, 42, 43, 40, 33], [33, 44], [45, 44], [46, 46], [46], [46], [47, 46], [49, 50, 46], [48, 51, 50, 46], [52, 46], [52, 46], [52, 46], [47, 53, 54, 55, 52, 46], [46, 56], [57, 56], [58, 58], [58], [59, 58], [61, 58], [60, 62, 61, 58], [63, 58], [63, 58], [63, 58], [59, 64, 65, 66, 63, 58], [58, 67], [68, 67], [69, 69], [69], [69], [69], [70, 69], [72, 73, 74, 69], [71, 75, 74, 69], [76, 69], [76, 69], [76, 69], [70, 77, 78, 79, 76, 69], [69, 80], [81, 80, 0, 1, 2, 3, 4, 5, 6, 7, 8, 9, 10, 11, 12, 13, 14, 15, 16, 17, 18, 19, 20, 21, 22, 23, 24, 25, 26, 27, 28, 29, 30, 31, 32, 33, 34, 35, 36, 37, 38, 39, 40, 41, 42, 43, 44, 45, 46, 47, 48, 49, 50, 51, 52, 53, 54, 55, 56, 57, 58, 59, 60, 61, 62, 63, 64, 65, 66, 67, 68, 69, 70, 71, 72, 73, 74, 75, 76, 77, 78, 79, 80, 81]] (by kernel_rfl) _ rfl rfl (by kernel_rfl) (by kernel_rfl) (by kernel_rfl) (by kernel_rfl) (by kernel_rfl) (by kernel_rfl) (by rfl) rfl (base_of (base_cons rfl (base_cons rfl (base_cons rfl (base_cons rfl (base_cons rfl (base_cons rfl (base_cons rfl (base_cons rfl (base_cons rfl (base_cons rfl (base_cons rfl (base_cons rfl (base_cons rfl (base_cons rfl (base_cons rfl (base_cons rfl (base_cons rfl (base_cons rfl (base_cons rfl (base_cons rfl (base_cons rfl (base_cons rfl (base_cons rfl (base_cons rfl (base_cons rfl (base_cons rfl (base_cons rfl (base_cons rfl (base_cons rfl (base_cons rfl (base_cons rfl (base_cons rfl (base_cons rfl (base_cons rfl (base_cons rfl (base_cons rfl (base_cons rfl (base_cons rfl (base_cons rfl (base_cons rfl (base_cons rfl (base_cons rfl (base_cons rfl (base_cons rfl (base_cons rfl (base_cons rfl (base_cons rfl (base_cons rfl (base_cons rfl (base_cons rfl (base_cons rfl (base_cons rfl (base_cons rfl (base_cons rfl (base_cons rfl (base_cons rfl (base_cons rfl (base_cons rfl (base_cons rfl (base_cons rfl (base_cons rfl (base_cons rfl (base_cons rfl (base_cons rfl (base_cons rfl (base_cons rfl (base_cons rfl (base_cons rfl (base_cons rfl (base_cons rfl (base_cons rfl (base_cons rfl (base_cons rfl (base_cons rfl (base_cons rfl (base_cons rfl (base_cons rfl (base_cons rfl (base_cons rfl (base_cons rfl (base_cons rfl (base_cons rfl (base_cons rfl (base_cons rfl (base_cons rfl (base_cons rfl (base_cons rfl (base_cons rfl (base_cons rfl (base_cons rfl (base_cons rfl (base_cons rfl (base_cons rfl (base_cons rfl (base_cons rfl (base_cons rfl (base_cons rfl (base_cons rfl (base_cons rfl (base_cons rfl (base_cons rfl (base_cons rfl (base_cons rfl (base_cons rfl (base_cons rfl (base_cons rfl (base_cons rfl (base_cons rfl (base_cons rfl (base_cons rfl (base_cons rfl (base_cons rfl (base_cons rfl (base_cons rfl (base_cons rfl (base_cons rfl (base_cons rfl (base_cons rfl (base_cons rfl (base_cons rfl (base_cons rfl (base_cons rfl (base_cons rfl (base_cons rfl (base_cons rfl (base_cons rfl (base_cons rfl (base_cons rfl (base_cons rfl (base_cons rfl (base_cons rfl (base_cons rfl (base_cons rfl (base_cons rfl (base_cons rfl (base_cons rfl (base_cons rfl (base_cons rfl (base_cons rfl (base_cons rfl (base_cons rfl (base_cons rfl (base_cons rfl (base_cons rfl (base_cons rfl (base_cons rfl (base_cons rfl (base_cons rfl (base_cons rfl (base_cons rfl (base_cons rfl (base_cons rfl (base_cons rfl (base_cons rfl (base_cons rfl (base_cons rfl (base_cons rfl (base_cons rfl (base_cons rfl (base_cons rfl (base_cons rfl (base_cons rfl (base_cons rfl (base_cons rfl (base_cons rfl (base_cons rfl (base_cons rfl (base_cons rfl (base_cons rfl (base_cons rfl (base_cons rfl (base_cons rfl (base_cons rfl (base_cons rfl (base_cons rfl (base_cons rfl (base_cons rfl (base_cons rfl (base_cons rfl (base_cons rfl (base_cons rfl (base_cons rfl (base_cons rfl (base_cons rfl (base_cons rfl (base_cons rfl (base_cons rfl (base_cons rfl (base_cons rfl (base_cons rfl (base_cons rfl (base_cons rfl (base_cons rfl (base_cons rfl (base_cons rfl (base_cons rfl (base_cons rfl (base_cons rfl (base_cons rfl (base_cons rfl (base_cons rfl (base_cons rfl (base_cons rfl (base_cons rfl (base_cons rfl (base_cons rfl (base_cons rfl (base_cons rfl (base_cons rfl (base_cons rfl (base_cons rfl (base_cons rfl (base_cons rfl (base_cons rfl (base_cons rfl (base_cons rfl (base_cons rfl (base_cons rfl (base_cons rfl (base_cons rfl (base_cons rfl (base_cons rfl (base_cons rfl (base_cons rfl (base_cons rfl (base_cons rfl (base_cons rfl (base_cons rfl (base_cons rfl (base_cons rfl (base_cons rfl (base_nil _))))))))))))))))))))))))))))))))))))))))))))))))))))))))))))))))))))))))))))))))))))))))))))))))))))))))))))))))))))))))))))))))))))))))))))))))))))))))))))))))))))))))))))))))))))))))))))))))))))))))))))))))))))))))))))))))))))))))) (ck14_steps X1 mw o1 om g1 g3 g17 _ _ _ _ _ _ _ _ _ _ _ _ _ _ _ _ _ _ _ _ _ _ _ _ _ _ _ _ _ _ _ _ _ _ _ _ _ _ _ _ _ _ _ _ _ _ _ _ _ _ _ _ _ _ _ _ _ _ _ _ _ _ _ _ _ _ _ _ _ _ _ _ _ _ _ _ _ _ _ _ _ _ _ _ _ _ _ _ _ _ _ _ _ _ _ _ _ _ _ _ _ _ _ _ _ _ _ _ _ _ _ _ _ _ _ _ _ _ _ _ _ _ _ _ _ _ _ _ _ _ _ _ _ _ _ _ _ _ _ _ _ _ _ _ _ _ _ _ _ _ _ _ _ _ _ _ _ _ _ _ _ _ _ _ _ _ _ _ _ _ _ _ _ _ _ _ _ _ _ _ _ _ _ _ _ _ _ _ _ _ _ _ _ _ _ _ _ _ _ _ _ _ _ _ _ _ _ _ _ _ _ _ _ _ _ _ _ _ _ _ _ _ _ _ _ _ _ J24 J44 hgd24 HE24 R1 R3 HO1 HOm HPL HPA HPB HP3 HP2 HP1 HPZ) ?_
    · intro a9 W9 hsz9 hdf9 hL9 hbs hsl
      obtain ⟨v9, h9, q9⟩ := hsl 81 _ _ rfl rfl
      obtain rfl : v9 = .bool true := q9
      refine wp_assign_last rfl rfl h9.ev ?_
      refine hKN _ _ ?_
      obtain ⟨T9, df9⟩ := a9
      obtain rfl : df9 = [] := hdf9
      obtain ⟨f, hf, rfl⟩ := spell313 T9 hsz9
      have X9 := fun k v h => (hf k).trans (slot_getD (hbs k v h))
      clear hbs hsl hf hsz9 hKN h9
      simp only [Act.put, List.setIfInBounds_toArray, List.set_cons_zero, List.set_cons_succ, X9 1 _ rfl, X9 3 _ rfl, X9 17 _ rfl, X9 0 _ rfl, X9 2 _ rfl, X9 4 _ rfl, X9 5 _ rfl, X9 6 _ rfl, X9 7 _ rfl, X9 8 _ rfl, X9 9 _ rfl, X9 10 _ rfl, X9 11 _ rfl, X9 12 _ rfl, X9 14 _ rfl, X9 15 _ rfl, X9 16 _ rfl, X9 18 _ rfl, X9 19 _ rfl, X9 20 _ rfl, X9 21 _ rfl, X9 22 _ rfl, X9 23 _ rfl, X9 24 _ rfl, X9 25 _ rfl, X9 26 _ rfl, X9 27 _ rfl, X9 28 _ rfl, X9 29 _ rfl, X9 30 _ rfl, X9 31 _ rfl, X9 32 _ rfl, X9 33 _ rfl, X9 34 _ rfl, X9 35 _ rfl, X9 36 _ rfl, X9 37 _ rfl, X9 38 _ rfl, X9 39 _ rfl, X9 40 _ rfl, X9 41 _ rfl, X9 42 _ rfl, X9 43 _ rfl, X9 44 _ rfl, X9 45 _ rfl, X9 46 _ rfl, X9 47 _ rfl, X9 48 _ rfl, X9 49 _ rfl, X9 50 _ rfl, X9 51 _ rfl, X9 52 _ rfl, X9 53 _ rfl, X9 54 _ rfl, X9 55 _ rfl, X9 56 _ rfl, X9 57 _ rfl, X9 58 _ rfl, X9 59 _ rfl, X9 60 _ rfl, X9 61 _ rfl, X9 62 _ rfl, X9 63 _ rfl, X9 64 _ rfl, X9 65 _ rfl, X9 66 _ rfl, X9 67 _ rfl, X9 68 _ rfl, X9 69 _ rfl, X9 70 _ rfl, X9 71 _ rfl, X9 72 _ rfl, X9 73 _ rfl, X9 74 _ rfl, X9 75 _ rfl, X9 76 _ rfl, X9 77 _ rfl, X9 78 _ rfl, X9 79 _ rfl, X9 80 _ rfl, X9 81 _ rfl, X9 82 _ rfl, X9 83 _ rfl, X9 84 _ rfl, X9 85 _ rfl, X9 86 _ rfl, X9 87 _ rfl, X9 88 _ rfl, X9 89 _ rfl, X9 90 _ rfl, X9 91 _ rfl, X9 92 _ rfl, X9 93 _ rfl, X9 94 _ rfl, X9 95 _ rfl, X9 96 _ rfl, X9 97 _ rfl, X9 98 _ rfl, X9 99 _ rfl, X9 100 _ rfl, X9 101 _ rfl, X9 102 _ rfl, X9 103 _ rfl, X9 104 _ rfl, X9 105 _ rfl, X9 106 _ rfl, X9 107 _ rfl, X9 108 _ rfl, X9 109 _ rfl, X9 110 _ rfl, X9 111 _ rfl, X9 112 _ rfl, X9 113 _ rfl, X9 114 _ rfl, X9 197 _ rfl, X9 198 _ rfl, X9 199 _ rfl, X9 200 _ rfl, X9 201 _ rfl, X9 202 _ rfl, X9 203 _ rfl, X9 204 _ rfl, X9 205 _ rfl, X9 206 _ rfl, X9 207 _ rfl, X9 208 _ rfl, X9 209 _ rfl, X9 210 _ rfl, X9 211 _ rfl, X9 212 _ rfl, X9 213 _ rfl, X9 214 _ rfl, X9 215 _ rfl, X9 216 _ rfl, X9 217 _ rfl, X9 218 _ rfl, X9 219 _ rfl, X9 220 _ rfl, X9 221 _ rfl, X9 222 _ rfl, X9 223 _ rfl, X9 224 _ rfl, X9 225 _ rfl, X9 226 _ rfl, X9 227 _ rfl, X9 228 _ rfl, X9 229 _ rfl, X9 230 _ rfl, X9 231 _ rfl, X9 232 _ rfl, X9 233 _ rfl, X9 234 _ rfl, X9 235 _ rfl, X9 236 _ rfl, X9 237 _ rfl, X9 238 _ rfl, X9 239 _ rfl, X9 240 _ rfl, X9 241 _ rfl, X9 242 _ rfl, X9 243 _ rfl, X9 244 _ rfl, X9 245 _ rfl, X9 246 _ rfl, X9 247 _ rfl, X9 248 _ rfl, X9 249 _ rfl, X9 250 _ rfl, X9 251 _ rfl, X9 252 _ rfl, X9 253 _ rfl, X9 254 _ rfl, X9 255 _ rfl, X9 256 _ rfl, X9 257 _ rfl, X9 258 _ rfl, X9 259 _ rfl, X9 260 _ rfl, X9 261 _ rfl, X9 262 _ rfl, X9 263 _ rfl, X9 264 _ rfl, X9 265 _ rfl, X9 266 _ rfl, X9 267 _ rfl, X9 268 _ rfl, X9 269 _ rfl, X9 270 _ rfl, X9 271 _ rfl, X9 272 _ rfl, X9 273 _ rfl, X9 274 _ rfl, X9 275 _ rfl, X9 276 _ rfl, X9 277 _ rfl, X9 278 _ rfl, X9 279 _ rfl, X9 280 _ rfl, X9 281 _ rfl, X9 282 _ rfl, X9 283 _ rfl, X9 284 _ rfl, X9 285 _ rfl, X9 286 _ rfl, X9 287 _ rfl, X9 288 _ rfl, X9 289 _ rfl, X9 290 _ rfl, X9 291 _ rfl, X9 292 _ rfl, X9 293 _ rfl, X9 294 _ rfl, X9 295 _ rfl, X9 296 _ rfl, X9 297 _ rfl, X9 298 _ rfl, X9 299 _ rfl, X9 300 _ rfl, X9 301 _ rfl, X9 302 _ rfl, X9 303 _ rfl, X9 304 _ rfl, X9 305 _ rfl, X9 306 _ rfl, X9 307 _ rfl, X9 308 _ rfl, X9 309 _ rfl, X9 310 _ rfl, X9 311 _ rfl, X9 312 _ rfl]
      clear X9
      replace k1 := k1.later hL9
      replace l0 := l0.trans hL9
      obtain ⟨Y20, rfl⟩ : ∃ z, z = W9 := ⟨_, rfl⟩
      clear hL9 R1 R3 HPL HPA HPB HP3 HP2 HP1 HPZ RB1 k3 HOm
      obtain ⟨w0, w2, w3, wx, wf, wm, HR, HQ1, HQ2, HQ3, HQ4, HQ5, HQ6⟩ := ckShares HOO.out.1
      clear HOO HT
      go_wp2_with fail
      refine (HQ1 Y20).mono ?_
      rintro e Z21 ⟨rfl, la⟩
      replace k1 := k1.later la
      replace l0 := l0.trans la
      clear la
      go_wp2_with fail
      refine (HQ2 Z21).mono ?_
      rintro e Z22 ⟨rfl, la⟩
      replace k1 := k1.later la
      replace l0 := l0.trans la
      clear la
      go_wp2_with fail
      refine (HQ3 Z22).mono ?_
      rintro e Z23 ⟨rfl, la⟩
      replace k1 := k1.later la
      replace l0 := l0.trans la
      clear la
      go_wp2_with fail
      refine (HQ4 Z23).mono ?_
      rintro e Z24 ⟨rfl, la⟩
      replace k1 := k1.later la
      replace l0 := l0.trans la
      clear la
      go_wp2_with fail
      refine (HQ5 Z24).mono ?_
      rintro e Z25 ⟨rfl, la⟩
      replace k1 := k1.later la
      replace l0 := l0.trans la
      clear la
      go_wp2_with fail
      refine (HQ6 Z25).mono ?_
      rintro e Z26 ⟨rfl, la⟩
      replace k1 := k1.later la
      replace l0 := l0.trans la
      clear la
      go_upto_region 16 with (fail)
      refine name1 (Q := fun W => Code.wp _ _ _ _ W) ?_
      intro Z27 la hs kr
      obtain ⟨gr, hgr⟩ : ∃ z, Z26.heap.size = z := ⟨_, rfl⟩
      have hb_r : w.heap.size ≤ gr := by rw [← hgr]; exact l0.size
      rw [hgr] at kr ⊢
      replace k1 := k1.later la
      replace l0 := l0.trans la
      clear la hs hgr
      clear HQ1 HQ2 HQ3 HQ4 HQ5 HQ6
      have RM := ckRows kr
      go_upto_region 16 with (fail)
      go_loopw [213] (fun i wr => ∃ j : Nat, j ≤ 7 ∧ i = .int .i64 j ∧ Blk wr g1 24 #[.int .u64 0] ∧ Lat w wr ∧ Lat Z27 wr) (fun i _ => 7 - (intOf i).toNat)
      case atStart => exact ⟨0, by omega, rfl, k1, l0, Lat.refl _⟩
      case round =>
        clear k1 l0 kr
        obtain ⟨j, hj, rfl, k1, l0, lx⟩ := hrel
        by_cases hlt : j < 7
        · as_aux_lemma =>
          obtain ⟨g, o, x, e, _, hx, hxl, hrg⟩ := (RM.later lx).at hlt
          cases e
          obtain ⟨N, D, up, er, rfl, HC⟩ := HR x (List.mem_of_getElem? hx)
          have hjI : (j : Int) < 7 := by omega
          have hj0 : (0 : Int) ≤ (j : Int) := by omega
          rw [Nat.zero_add] at hrg
          obtain ⟨t, HCO, HK⟩ := HC
          have HKH := Lib.hid HK
          clear HK hx hxl
          go_upto_region 18 with (refine wpList_load_mid (by rfl) 57 (.tmp 215) (by rfl) gr (j * 18) (by rfl) [.int .u64 N.a0, .int .u64 N.a1, .int .u64 N.a2, .int .u64 N.a3, .int .u64 N.a4, .int .u64 N.a5, .int .u64 N.a6, .int .u64 N.a7, .int .u64 D.a0, .int .u64 D.a1, .int .u64 D.a2, .int .u64 D.a3, .int .u64 D.a4, .int .u64 D.a5, .int .u64 D.a6, .int .u64 D.a7, .bool up, .int .i64 er] _ hrg Try.underlying57 rfl (by kernel_rfl) ?_)
          clear hrg
          refine name1 (Q := fun W => Code.wp _ _ _ _ W) ?_
          intro T1 la hs k19
          obtain ⟨g19, hg19⟩ : ∃ z, wr.heap.size = z := ⟨_, rfl⟩
          have hb_19 : w.heap.size ≤ g19 := by rw [← hg19]; exact l0.size
          rw [hg19] at k19 ⊢
          replace k1 := k1.later la
          replace l0 := l0.trans la
          replace lx := lx.trans la
          clear la hs hg19
          have yk1_0 := k1.cell 0
          have yk19_0 := k19.cell 0
          have yk19_1 := k19.cell 1
          have yk19_2 := k19.cell 2
          have yk19_3 := k19.cell 3
          have yk19_4 := k19.cell 4
          have yk19_5 := k19.cell 5
          have yk19_6 := k19.cell 6
          have yk19_7 := k19.cell 7
          have yk19_8 := k19.cell 8
          have yk19_9 := k19.cell 9
          have yk19_10 := k19.cell 10
          have yk19_11 := k19.cell 11
          have yk19_12 := k19.cell 12
          have yk19_13 := k19.cell 13
          have yk19_14 := k19.cell 14
          have yk19_15 := k19.cell 15
          have yk19_16 := k19.cell 16
          have yk19_17 := k19.cell 17
          go_wp2_with fail
          refine (HCO T1).mono ?_
          rintro e T2 ⟨rfl, la⟩
          clear yk1_0 yk19_0 yk19_1 yk19_2 yk19_3 yk19_4 yk19_5 yk19_6 yk19_7 yk19_8 yk19_9 yk19_10 yk19_11 yk19_12 yk19_13 yk19_14 yk19_15 yk19_16 yk19_17
          replace k1 := k1.later la
          replace k19 := k19.later la
          replace l0 := l0.trans la
          replace lx := lx.trans la
          clear la
          go_upto_region 19 with (fail)
          refine name1 (Q := fun W => Code.wp _ _ _ _ W) ?_
          intro T3 la hs k21
          obtain ⟨g21, hg21⟩ : ∃ z, T2.heap.size = z := ⟨_, rfl⟩
          have hb_21 : w.heap.size ≤ g21 := by rw [← hg21]; exact l0.size
          rw [hg21] at k21 ⊢
          replace k1 := k1.later la
          replace k19 := k19.later la
          replace l0 := l0.trans la
          replace lx := lx.trans la
          clear la hs hg21
          have RU : ∀ w', Lat T3 w' → w'.cell? ⟨g19, 16, none⟩ = some (.bool up) := fun w' hl => (k19.later hl).cell 16
          have RE : ∀ w', Lat T3 w' → w'.cell? ⟨g19, 17, none⟩ = some (.int .i64 er) := fun w' hl => (k19.later hl).cell 17
          have RDD : ∀ w', Lat T3 w' → w'.rangeAt g19 8 [.int .u64 D.a0, .int .u64 D.a1, .int .u64 D.a2, .int .u64 D.a3, .int .u64 D.a4, .int .u64 D.a5, .int .u64 D.a6, .int .u64 D.a7] := fun w' hl => ckRD (k19.later hl)
          have R21 : ∀ w', Lat T3 w' → w'.rangeAt g21 0 [.int .u64 (t : Nat)] := fun w' hl => (k21.later hl).rangeAll
          have R1 : ∀ w', Lat T3 w' → w'.rangeAt g1 0 [.int .u64 0] := fun w' hl => (k1.later hl).rangeAll
          have hgd44 : Hid (Try.prog.eqGuardType Try.prog.depth 44 = false) := Lib.hid (by kernel_rfl)
          rcases HKH.out with her | ⟨b, rfl, HED, HET⟩
          · as_aux_lemma =>
            go_upto_region 19 with (fail)
            rename_i KN hKN
            refine wp_region_slotsG (ck19e_rows N D o1 up er t g1 g19 g21) (ck19e_base N D o1 up er t g1 g19 g21 _ _ _ _ _ _ _ _ _ _ _ _ _ _ _ _ _ _ _ _ _ _ _ _ _ _ _ _ _ _ _ _ _ _ _ _ _ _ _ _ _ _ _ _ _ _ _ _ _ _ _ _ _ _ _ _ _ _ _ _ _ _ _ _ _ _ _ _ _ _ _ _ _ _ _ _ _ _ _ _ _ _ _ _ _ _ _ _ _ _ _ _ _ _ _ _ _ _ _ _ _ _ _ _ _ _ _ _ _ _ _ _ _ _ _ _ _ _ _ _ _ _ _ _ _ _ _ _ _ _ _ _ _ _ _ _ _ _ _ _ _ _ _ _ _ _ _ _ _ _ _ _ _ _ _ _ _ _ _ _ _ _ _ _ _ _ _ _ _ _ _ _ _ _ _ _ _ _ _ _ _ _ _ _ _ _ _ _ _ _ _ _ _ _ _ _ _ _ _ _ _ _ _ _ _ _ _ _ _ _ _ _ _ _ _ _ _ _ _ _ _ _ _ _ _ _ _ _ _ _ _ _ _ _ _ _ _ _ _ _ _ _ _ _ _ _ _ _ _ _ _ _ _ _ _ _ _ _ _ _ _ _ _ _ _ _ _ _ _ _ _ _ _ _ _ _ _ _ _ _ _ _ _) 313 25 [[], [], [1], [0, 2], [3], [4], [4], [6, 4], [5, 7, 4], [4, 8], [9, 4], [10], [11, 10], [12, 10, 10], [13], [14, 13], [15, 13], [13, 13], [16, 17, 13], [13], [13], [19, 20, 13], [18, 21, 13], [13, 22, 10], [10, 23]] (by kernel_rfl) (by kernel_rfl) (by kernel_rfl) (by kernel_rfl) (by kernel_rfl) (by kernel_rfl) (by rfl) rfl (base_of (base_cons rfl (base_cons rfl (base_cons rfl (base_cons rfl (base_cons rfl (base_cons rfl (base_cons rfl (base_cons rfl (base_cons rfl (base_cons rfl (base_cons rfl (base_cons rfl (base_cons rfl (base_cons rfl (base_cons rfl (base_cons rfl (base_cons rfl (base_cons rfl (base_cons rfl (base_cons rfl (base_cons rfl (base_cons rfl (base_cons rfl (base_cons rfl (base_cons rfl (base_cons rfl (base_cons rfl (base_cons rfl (base_cons rfl (base_cons rfl (base_cons rfl (base_cons rfl (base_cons rfl (base_cons rfl (base_cons rfl (base_cons rfl (base_cons rfl (base_cons rfl (base_cons rfl (base_cons rfl (base_cons rfl (base_cons rfl (base_cons rfl (base_cons rfl (base_cons rfl (base_cons rfl (base_cons rfl (base_cons rfl (base_cons rfl (base_cons rfl (base_cons rfl (base_cons rfl (base_cons rfl (base_cons rfl (base_cons rfl (base_cons rfl (base_cons rfl (base_cons rfl (base_cons rfl (base_cons rfl (base_cons rfl (base_cons rfl (base_cons rfl (base_cons rfl (base_cons rfl (base_cons rfl (base_cons rfl (base_cons rfl (base_cons rfl (base_cons rfl (base_cons rfl (base_cons rfl (base_cons rfl (base_cons rfl (base_cons rfl (base_cons rfl (base_cons rfl (base_cons rfl (base_cons rfl (base_cons rfl (base_cons rfl (base_cons rfl (base_cons rfl (base_cons rfl (base_cons rfl (base_cons rfl (base_cons rfl (base_cons rfl (base_cons rfl (base_cons rfl (base_cons rfl (base_cons rfl (base_cons rfl (base_cons rfl (base_cons rfl (base_cons rfl (base_cons rfl (base_cons rfl (base_cons rfl (base_cons rfl (base_cons rfl (base_cons rfl (base_cons rfl (base_cons rfl (base_cons rfl (base_cons rfl (base_cons rfl (base_cons rfl (base_cons rfl (base_cons rfl (base_cons rfl (base_cons rfl (base_cons rfl (base_cons rfl (base_cons rfl (base_cons rfl (base_cons rfl (base_cons rfl (base_cons rfl (base_cons rfl (base_cons rfl (base_cons rfl (base_cons rfl (base_cons rfl (base_cons rfl (base_cons rfl (base_cons rfl (base_cons rfl (base_cons rfl (base_cons rfl (base_cons rfl (base_cons rfl (base_cons rfl (base_cons rfl (base_cons rfl (base_cons rfl (base_cons rfl (base_cons rfl (base_cons rfl (base_cons rfl (base_cons rfl (base_cons rfl (base_cons rfl (base_cons rfl (base_cons rfl (base_cons rfl (base_cons rfl (base_cons rfl (base_cons rfl (base_cons rfl (base_cons rfl (base_cons rfl (base_cons rfl (base_cons rfl (base_cons rfl (base_cons rfl (base_cons rfl (base_cons rfl (base_cons rfl (base_cons rfl (base_cons rfl (base_cons rfl (base_cons rfl (base_cons rfl (base_cons rfl (base_cons rfl (base_cons rfl (base_cons rfl (base_cons rfl (base_cons rfl (base_cons rfl (base_cons rfl (base_cons rfl (base_cons rfl (base_cons rfl (base_cons rfl (base_cons rfl (base_cons rfl (base_cons rfl (base_cons rfl (base_cons rfl (base_cons rfl (base_cons rfl (base_cons rfl (base_cons rfl (base_cons rfl (base_cons rfl (base_cons rfl (base_cons rfl (base_cons rfl (base_cons rfl (base_cons rfl (base_cons rfl (base_cons rfl (base_cons rfl (base_cons rfl (base_cons rfl (base_cons rfl (base_cons rfl (base_cons rfl (base_cons rfl (base_cons rfl (base_cons rfl (base_cons rfl (base_cons rfl (base_cons rfl (base_cons rfl (base_cons rfl (base_cons rfl (base_cons rfl (base_cons rfl (base_cons rfl (base_cons rfl (base_cons rfl (base_cons rfl (base_cons rfl (base_cons rfl (base_cons rfl (base_cons rfl (base_cons rfl (base_cons rfl (base_cons rfl (base_cons rfl (base_cons rfl (base_cons rfl (base_cons rfl (base_cons rfl (base_cons rfl (base_cons rfl (base_cons rfl (base_cons rfl (base_cons rfl (base_cons rfl (base_cons rfl (base_cons rfl (base_cons rfl (base_cons rfl (base_cons rfl (base_cons rfl (base_cons rfl (base_cons rfl (base_cons rfl (base_cons rfl (base_cons rfl (base_cons rfl (base_cons rfl (base_cons rfl (base_cons rfl (base_cons rfl (base_cons rfl (base_cons rfl (base_cons rfl (base_cons rfl (base_cons rfl (base_cons rfl (base_cons rfl (base_cons rfl (base_cons rfl (base_cons rfl (base_cons rfl (base_cons rfl (base_cons rfl (base_cons rfl (base_cons rfl (base_cons rfl (base_cons rfl (base_cons rfl (base_cons rfl (base_cons rfl (base_cons rfl (base_cons rfl (base_cons rfl (base_cons rfl (base_cons rfl (base_cons rfl (base_cons rfl (base_cons rfl (base_cons rfl (base_cons rfl (base_cons rfl (base_cons rfl (base_cons rfl (base_cons rfl (base_cons rfl (base_cons rfl (base_cons rfl (base_cons rfl (base_cons rfl (base_nil _)))))))))))))))))))))))))))))))))))))))))))))))))))))))))))))))))))))))))))))))))))))))))))))))))))))))))))))))))))))))))))))))))))))))))))))))))))))))))))))))))))))))))))))))))))))))))))))))))))))))))))))))))))))))))))))))))))))))))))))))))))))))))))))))))))))))))))))))))))))))))))))))))) (ck19e_steps T3 N D o1 up er t g1 g19 g21 _ _ _ _ _ _ _ _ _ _ _ _ _ _ _ _ _ _ _ _ _ _ _ _ _ _ _ _ _ _ _ _ _ _ _ _ _ _ _ _ _ _ _ _ _ _ _ _ _ _ _ _ _ _ _ _ _ _ _ _ _ _ _ _ _ _ _ _ _ _ _ _ _ _ _ _ _ _ _ _ _ _ _ _ _ _ _ _ _ _ _ _ _ _ _ _ _ _ _ _ _ _ _ _ _ _ _ _ _ _ _ _ _ _ _ _ _ _ _ _ _ _ _ _ _ _ _ _ _ _ _ _ _ _ _ _ _ _ _ _ _ _ _ _ _ _ _ _ _ _ _ _ _ _ _ _ _ _ _ _ _ _ _ _ _ _ _ _ _ _ _ _ _ _ _ _ _ _ _ _ _ _ _ _ _ _ _ _ _ _ _ _ _ _ _ _ _ _ _ _ _ _ _ _ _ _ _ _ _ _ _ _ _ _ _ _ _ _ _ _ _ _ _ _ _ _ _ _ _ _ _ _ _ _ _ _ _ _ _ _ _ _ _ _ _ _ _ _ _ _ _ _ _ _ _ _ _ _ _ _ _ _ _ _ _ _ _ _ _ _ _ _ _ _ _ _ _ _ _ _ _ _ _ J24 J44 RU RE her) ?_
            · intro a9 W9 hsz9 hdf9 hL9 hbs hsl
              obtain ⟨v9, h9, q9⟩ := hsl 24 _ _ rfl rfl
              obtain rfl : v9 = .bool false := q9
              have w249 := slot_getD h9
              clear h9
              refine hKN _ _ ?_
              obtain ⟨T9, df9⟩ := a9
              obtain rfl : df9 = [] := hdf9
              obtain ⟨f, hf, rfl⟩ := spell313 T9 hsz9
              have X9 := fun k v h => (hf k).trans (slot_getD (hbs k v h))
              have x249 := (hf 249).trans w249
              clear hbs hsl hf hsz9 hKN w249
              simp only [X9 1 _ rfl, X9 19 _ rfl, X9 20 _ rfl, X9 21 _ rfl, X9 22 _ rfl, X9 0 _ rfl, X9 2 _ rfl, X9 3 _ rfl, X9 4 _ rfl, X9 5 _ rfl, X9 6 _ rfl, X9 7 _ rfl, X9 8 _ rfl, X9 9 _ rfl, X9 10 _ rfl, X9 11 _ rfl, X9 12 _ rfl, X9 13 _ rfl, X9 14 _ rfl, X9 15 _ rfl, X9 16 _ rfl, X9 17 _ rfl, X9 18 _ rfl, X9 23 _ rfl, X9 24 _ rfl, X9 25 _ rfl, X9 26 _ rfl, X9 27 _ rfl, X9 28 _ rfl, X9 29 _ rfl, X9 30 _ rfl, X9 31 _ rfl, X9 32 _ rfl, X9 33 _ rfl, X9 34 _ rfl, X9 35 _ rfl, X9 36 _ rfl, X9 37 _ rfl, X9 38 _ rfl, X9 39 _ rfl, X9 40 _ rfl, X9 41 _ rfl, X9 42 _ rfl, X9 43 _ rfl, X9 44 _ rfl, X9 45 _ rfl, X9 46 _ rfl, X9 47 _ rfl, X9 48 _ rfl, X9 49 _ rfl, X9 50 _ rfl, X9 51 _ rfl, X9 52 _ rfl, X9 53 _ rfl, X9 54 _ rfl, X9 55 _ rfl, X9 56 _ rfl, X9 57 _ rfl, X9 58 _ rfl, X9 59 _ rfl, X9 60 _ rfl, X9 61 _ rfl, X9 62 _ rfl, X9 63 _ rfl, X9 64 _ rfl, X9 65 _ rfl, X9 66 _ rfl, X9 67 _ rfl, X9 68 _ rfl, X9 69 _ rfl, X9 70 _ rfl, X9 71 _ rfl, X9 72 _ rfl, X9 73 _ rfl, X9 74 _ rfl, X9 75 _ rfl, X9 76 _ rfl, X9 77 _ rfl, X9 78 _ rfl, X9 79 _ rfl, X9 80 _ rfl, X9 81 _ rfl, X9 82 _ rfl, X9 83 _ rfl, X9 84 _ rfl, X9 85 _ rfl, X9 86 _ rfl, X9 87 _ rfl, X9 88 _ rfl, X9 89 _ rfl, X9 90 _ rfl, X9 91 _ rfl, X9 92 _ rfl, X9 93 _ rfl, X9 94 _ rfl, X9 95 _ rfl, X9 96 _ rfl, X9 97 _ rfl, X9 98 _ rfl, X9 99 _ rfl, X9 100 _ rfl, X9 101 _ rfl, X9 102 _ rfl, X9 103 _ rfl, X9 104 _ rfl, X9 105 _ rfl, X9 106 _ rfl, X9 107 _ rfl, X9 108 _ rfl, X9 109 _ rfl, X9 110 _ rfl, X9 111 _ rfl, X9 112 _ rfl, X9 113 _ rfl, X9 114 _ rfl, X9 115 _ rfl, X9 116 _ rfl, X9 117 _ rfl, X9 118 _ rfl, X9 119 _ rfl, X9 120 _ rfl, X9 121 _ rfl, X9 122 _ rfl, X9 123 _ rfl, X9 124 _ rfl, X9 125 _ rfl, X9 126 _ rfl, X9 127 _ rfl, X9 128 _ rfl, X9 129 _ rfl, X9 130 _ rfl, X9 131 _ rfl, X9 132 _ rfl, X9 133 _ rfl, X9 134 _ rfl, X9 135 _ rfl, X9 136 _ rfl, X9 137 _ rfl, X9 138 _ rfl, X9 139 _ rfl, X9 140 _ rfl, X9 141 _ rfl, X9 142 _ rfl, X9 143 _ rfl, X9 144 _ rfl, X9 145 _ rfl, X9 146 _ rfl, X9 147 _ rfl, X9 148 _ rfl, X9 149 _ rfl, X9 150 _ rfl, X9 151 _ rfl, X9 152 _ rfl, X9 153 _ rfl, X9 154 _ rfl, X9 155 _ rfl, X9 156 _ rfl, X9 157 _ rfl, X9 158 _ rfl, X9 159 _ rfl, X9 160 _ rfl, X9 161 _ rfl, X9 162 _ rfl, X9 163 _ rfl, X9 164 _ rfl, X9 165 _ rfl, X9 166 _ rfl, X9 167 _ rfl, X9 168 _ rfl, X9 169 _ rfl, X9 170 _ rfl, X9 171 _ rfl, X9 172 _ rfl, X9 173 _ rfl, X9 174 _ rfl, X9 175 _ rfl, X9 176 _ rfl, X9 177 _ rfl, X9 178 _ rfl, X9 179 _ rfl, X9 180 _ rfl, X9 181 _ rfl, X9 182 _ rfl, X9 183 _ rfl, X9 184 _ rfl, X9 185 _ rfl, X9 186 _ rfl, X9 187 _ rfl, X9 188 _ rfl, X9 189 _ rfl, X9 190 _ rfl, X9 191 _ rfl, X9 192 _ rfl, X9 193 _ rfl, X9 194 _ rfl, X9 195 _ rfl, X9 196 _ rfl, X9 197 _ rfl, X9 198 _ rfl, X9 199 _ rfl, X9 200 _ rfl, X9 201 _ rfl, X9 202 _ rfl, X9 203 _ rfl, X9 204 _ rfl, X9 205 _ rfl, X9 206 _ rfl, X9 207 _ rfl, X9 208 _ rfl, X9 209 _ rfl, X9 210 _ rfl, X9 211 _ rfl, X9 212 _ rfl, X9 213 _ rfl, X9 214 _ rfl, X9 215 _ rfl, X9 216 _ rfl, X9 217 _ rfl, X9 218 _ rfl, X9 219 _ rfl, X9 220 _ rfl, X9 221 _ rfl, X9 222 _ rfl, X9 223 _ rfl, X9 224 _ rfl, X9 250 _ rfl, X9 251 _ rfl, X9 252 _ rfl, X9 253 _ rfl, X9 254 _ rfl, X9 255 _ rfl, X9 256 _ rfl, X9 257 _ rfl, X9 258 _ rfl, X9 259 _ rfl, X9 260 _ rfl, X9 261 _ rfl, X9 262 _ rfl, X9 263 _ rfl, X9 264 _ rfl, X9 265 _ rfl, X9 266 _ rfl, X9 267 _ rfl, X9 268 _ rfl, X9 269 _ rfl, X9 270 _ rfl, X9 271 _ rfl, X9 272 _ rfl, X9 273 _ rfl, X9 274 _ rfl, X9 275 _ rfl, X9 276 _ rfl, X9 277 _ rfl, X9 278 _ rfl, X9 279 _ rfl, X9 280 _ rfl, X9 281 _ rfl, X9 282 _ rfl, X9 283 _ rfl, X9 284 _ rfl, X9 285 _ rfl, X9 286 _ rfl, X9 287 _ rfl, X9 288 _ rfl, X9 289 _ rfl, X9 290 _ rfl, X9 291 _ rfl, X9 292 _ rfl, X9 293 _ rfl, X9 294 _ rfl, X9 295 _ rfl, X9 296 _ rfl, X9 297 _ rfl, X9 298 _ rfl, X9 299 _ rfl, X9 300 _ rfl, X9 301 _ rfl, X9 302 _ rfl, X9 303 _ rfl, X9 304 _ rfl, X9 305 _ rfl, X9 306 _ rfl, X9 307 _ rfl, X9 308 _ rfl, X9 309 _ rfl, X9 310 _ rfl, X9 311 _ rfl, X9 312 _ rfl, x249]
              clear x249 X9
              replace k1 := k1.later hL9
              replace l0 := l0.trans hL9
              replace lx := lx.trans hL9
              clear hL9 RU RE RDD R21 R1 HCO k19 k21 her
              go_wp2
              go_roundw
              case rel => first | exact ⟨_, _, _, _, _, .int .i64 ((j : Int) + 1), ⟨j + 1, by omega, by go_num⟩, rfl, rfl, rfl, rfl, rfl, rfl⟩ | exact ⟨j + 1, by omega, by go_num, k1, l0, lx⟩ | exact ⟨_, _, _, _, _, _, _, _, _, _, _, _, _, _, _, _, _, _, _, _, _, _, _, _, _, _, _, _, _, _, _, _, _, _, _, _, _, _, _, _, _, _, ⟨j + 1, by omega, by go_num, k1, l0, lx⟩, rfl⟩ | exact ⟨_, _, _, _, _, _, _, _, _, _, _, _, _, _, _, _, _, _, _, _, _, _, _, _, _, _, _, _, _, _, _, _, _, _, _, _, _, _, _, _, _, ⟨j + 1, by omega, by go_num, k1, l0, lx⟩, rfl⟩ | exact ⟨_, _, _, _, _, _, _, _, _, _, _, _, _, _, _, _, _, _, _, _, _, _, _, _, _, _, _, _, _, _, _, _, _, _, _, _, _, _, _, _, _, _, _, ⟨j + 1, by omega, by go_num, k1, l0, lx⟩, rfl⟩ | exact ⟨_, _, _, _, _, _, _, _, _, _, _, _, _, _, _, _, _, _, _, _, _, _, _, _, _, _, _, _, _, _, _, _, _, _, _, _, _, _, _, _, ⟨j + 1, by omega, by go_num, k1, l0, lx⟩, rfl⟩ | exact ⟨_, _, _, _, _, _, _, _, _, _, _, _, _, _, _, _, _, _, _, _, _, _, _, _, _, _, _, _, _, _, _, _, _, _, _, _, _, _, _, _, _, _, _, _, ⟨j + 1, by omega, by go_num, k1, l0, lx⟩, rfl⟩ | exact ⟨_, _, _, _, _, _, _, _, _, _, _, _, _, _, _, _, _, _, _, _, _, _, _, _, _, _, _, _, _, _, _, _, _, _, _, _, _, _, _, ⟨j + 1, by omega, by go_num, k1, l0, lx⟩, rfl⟩ | exact ⟨_, _, _, _, _, _, _, _, _, _, _, _, _, _, _, _, _, _, _, _, _, _, _, _, _, _, _, _, _, _, _, _, _, _, _, _, _, _, _, _, _, _, _, _, _, ⟨j + 1, by omega, by go_num, k1, l0, lx⟩, rfl⟩ | exact ⟨_, _, _, _, _, _, _, _, _, _, _, _, _, _, _, _, _, _, _, _, _, _, _, _, _, _, _, _, _, _, _, _, _, _, _, _, _, _, ⟨j + 1, by omega, by go_num, k1, l0, lx⟩, rfl⟩ | exact ⟨_, _, _, _, _, _, _, _, _, _, _, _, _, _, _, _, _, _, _, _, _, _, _, _, _, _, _, _, _, _, _, _, _, _, _, _, _, _, _, _, _, _, _, _, _, _, ⟨j + 1, by omega, by go_num, k1, l0, lx⟩, rfl⟩
              case measure => simp [intOf]; omega
          · cases b with
            | true =>
              as_aux_lemma =>
              go_upto_region 19 with (fail)
              rename_i KN hKN
              refine wp_region_slotsG (ck19o_rows N D o1 up 0 t g1 g19 g21) (ck19o_base N D o1 up 0 t g1 g19 g21 _ _ _ _ _ _ _ _ _ _ _ _ _ _ _ _ _ _ _ _ _ _ _ _ _ _ _ _ _ _ _ _ _ _ _ _ _ _ _ _ _ _ _ _ _ _ _ _ _ _ _ _ _ _ _ _ _ _ _ _ _ _ _ _ _ _ _ _ _ _ _ _ _ _ _ _ _ _ _ _ _ _ _ _ _ _ _ _ _ _ _ _ _ _ _ _ _ _ _ _ _ _ _ _ _ _ _ _ _ _ _ _ _ _ _ _ _ _ _ _ _ _ _ _ _ _ _ _ _ _ _ _ _ _ _ _ _ _ _ _ _ _ _ _ _ _ _ _ _ _ _ _ _ _ _ _ _ _ _ _ _ _ _ _ _ _ _ _ _ _ _ _ _ _ _ _ _ _ _ _ _ _ _ _ _ _ _ _ _ _ _ _ _ _ _ _ _ _ _ _ _ _ _ _ _ _ _ _ _ _ _ _ _ _ _ _ _ _ _ _ _ _ _ _ _ _ _ _ _ _ _ _ _ _ _ _ _ _ _ _ _ _ _ _ _ _ _ _ _ _ _ _ _ _ _ _ _ _ _ _ _ _ _ _ _ _ _ _ _ _ _ _ _ _ _ _ _ _ _ _ _ _ _) 313 25 [[], [], [1], [0, 2], [3], [4], [4], [6, 4], [5, 7, 4], [4, 8], [9, 4], [10], [11, 10], [12, 10, 10], [13], [14, 13], [15, 13], [13, 13], [16, 17, 13], [13], [13], [19, 20, 13], [18, 21, 13], [13, 22, 10], [10, 23]] (by kernel_rfl) (by kernel_rfl) (by kernel_rfl) (by kernel_rfl) (by kernel_rfl) (by kernel_rfl) (by rfl) rfl (base_of (base_cons rfl (base_cons rfl (base_cons rfl (base_cons rfl (base_cons rfl (base_cons rfl (base_cons rfl (base_cons rfl (base_cons rfl (base_cons rfl (base_cons rfl (base_cons rfl (base_cons rfl (base_cons rfl (base_cons rfl (base_cons rfl (base_cons rfl (base_cons rfl (base_cons rfl (base_cons rfl (base_cons rfl (base_cons rfl (base_cons rfl (base_cons rfl (base_cons rfl (base_cons rfl (base_cons rfl (base_cons rfl (base_cons rfl (base_cons rfl (base_cons rfl (base_cons rfl (base_cons rfl (base_cons rfl (base_cons rfl (base_cons rfl (base_cons rfl (base_cons rfl (base_cons rfl (base_cons rfl (base_cons rfl (base_cons rfl (base_cons rfl (base_cons rfl (base_cons rfl (base_cons rfl (base_cons rfl (base_cons rfl (base_cons rfl (base_cons rfl (base_cons rfl (base_cons rfl (base_cons rfl (base_cons rfl (base_cons rfl (base_cons rfl (base_cons rfl (base_cons rfl (base_cons rfl (base_cons rfl (base_cons rfl (base_cons rfl (base_cons rfl (base_cons rfl (base_cons rfl (base_cons rfl (base_cons rfl (base_cons rfl (base_cons rfl (base_cons rfl (base_cons rfl (base_cons rfl (base_cons rfl (base_cons rfl (base_cons rfl (base_cons rfl (base_cons rfl (base_cons rfl (base_cons rfl (base_cons rfl (base_cons rfl (base_cons rfl (base_cons rfl (base_cons rfl (base_cons rfl (base_cons rfl (base_cons rfl (base_cons rfl (base_cons rfl (base_cons rfl (base_cons rfl (base_cons rfl (base_cons rfl (base_cons rfl (base_cons rfl (base_cons rfl (base_cons rfl (base_cons rfl (base_cons rfl (base_cons rfl (base_cons rfl (base_cons rfl (base_cons rfl (base_cons rfl (base_cons rfl (base_cons rfl (base_cons rfl (base_cons rfl (base_cons rfl (base_cons rfl (base_cons rfl (base_cons rfl (base_cons rfl (base_cons rfl (base_cons rfl (base_cons rfl (base_cons rfl (base_cons rfl (base_cons rfl (base_cons rfl (base_cons rfl (base_cons rfl (base_cons rfl (base_cons rfl (base_cons rfl (base_cons rfl (base_cons rfl (base_cons rfl (base_cons rfl (base_cons rfl (base_cons rfl (base_cons rfl (base_cons rfl (base_cons rfl (base_cons rfl (base_cons rfl (base_cons rfl (base_cons rfl (base_cons rfl (base_cons rfl (base_cons rfl (base_cons rfl (base_cons rfl (base_cons rfl (base_cons rfl (base_cons rfl (base_cons rfl (base_cons rfl (base_cons rfl (base_cons rfl (base_cons rfl (base_cons rfl (base_cons rfl (base_cons rfl (base_cons rfl (base_cons rfl (base_cons rfl (base_cons rfl (base_cons rfl (base_cons rfl (base_cons rfl (base_cons rfl (base_cons rfl (base_cons rfl (base_cons rfl (base_cons rfl (base_cons rfl (base_cons rfl (base_cons rfl (base_cons rfl (base_cons rfl (base_cons rfl (base_cons rfl (base_cons rfl (base_cons rfl (base_cons rfl (base_cons rfl (base_cons rfl (base_cons rfl (base_cons rfl (base_cons rfl (base_cons rfl (base_cons rfl (base_cons rfl (base_cons rfl (base_cons rfl (base_cons rfl (base_cons rfl (base_cons rfl (base_cons rfl (base_cons rfl (base_cons rfl (base_cons rfl (base_cons rfl (base_cons rfl (base_cons rfl (base_cons rfl (base_cons rfl (base_cons rfl (base_cons rfl (base_cons rfl (base_cons rfl (base_cons rfl (base_cons rfl (base_cons rfl (base_cons rfl (base_cons rfl (base_cons rfl (base_cons rfl (base_cons rfl (base_cons rfl (base_cons rfl (base_cons rfl (base_cons rfl (base_cons rfl (base_cons rfl (base_cons rfl (base_cons rfl (base_cons rfl (base_cons rfl (base_cons rfl (base_cons rfl (base_cons rfl (base_cons rfl (base_cons rfl (base_cons rfl (base_cons rfl (base_cons rfl (base_cons rfl (base_cons rfl (base_cons rfl (base_cons rfl (base_cons rfl (base_cons rfl (base_cons rfl (base_cons rfl (base_cons rfl (base_cons rfl (base_cons rfl (base_cons rfl (base_cons rfl (base_cons rfl (base_cons rfl (base_cons rfl (base_cons rfl (base_cons rfl (base_cons rfl (base_cons rfl (base_cons rfl (base_cons rfl (base_cons rfl (base_cons rfl (base_cons rfl (base_cons rfl (base_cons rfl (base_cons rfl (base_cons rfl (base_cons rfl (base_cons rfl (base_cons rfl (base_cons rfl (base_cons rfl (base_cons rfl (base_cons rfl (base_cons rfl (base_cons rfl (base_cons rfl (base_cons rfl (base_cons rfl (base_cons rfl (base_cons rfl (base_cons rfl (base_cons rfl (base_cons rfl (base_cons rfl (base_cons rfl (base_cons rfl (base_cons rfl (base_cons rfl (base_cons rfl (base_cons rfl (base_cons rfl (base_cons rfl (base_cons rfl (base_cons rfl (base_cons rfl (base_cons rfl (base_cons rfl (base_nil _)))))))))))))))))))))))))))))))))))))))))))))))))))))))))))))))))))))))))))))))))))))))))))))))))))))))))))))))))))))))))))))))))))))))))))))))))))))))))))))))))))))))))))))))))))))))))))))))))))))))))))))))))))))))))))))))))))))))))))))))))))))))))))))))))))))))))))))))))))))))))))))))))) (ck19o_steps T3 N D o1 up 0 t g1 g19 g21 _ _ _ _ _ _ _ _ _ _ _ _ _ _ _ _ _ _ _ _ _ _ _ _ _ _ _ _ _ _ _ _ _ _ _ _ _ _ _ _ _ _ _ _ _ _ _ _ _ _ _ _ _ _ _ _ _ _ _ _ _ _ _ _ _ _ _ _ _ _ _ _ _ _ _ _ _ _ _ _ _ _ _ _ _ _ _ _ _ _ _ _ _ _ _ _ _ _ _ _ _ _ _ _ _ _ _ _ _ _ _ _ _ _ _ _ _ _ _ _ _ _ _ _ _ _ _ _ _ _ _ _ _ _ _ _ _ _ _ _ _ _ _ _ _ _ _ _ _ _ _ _ _ _ _ _ _ _ _ _ _ _ _ _ _ _ _ _ _ _ _ _ _ _ _ _ _ _ _ _ _ _ _ _ _ _ _ _ _ _ _ _ _ _ _ _ _ _ _ _ _ _ _ _ _ _ _ _ _ _ _ _ _ _ _ _ _ _ _ _ _ _ _ _ _ _ _ _ _ _ _ _ _ _ _ _ _ _ _ _ _ _ _ _ _ _ _ _ _ _ _ _ _ _ _ _ _ _ _ _ _ _ _ _ _ _ _ _ _ _ _ _ _ _ _ _ _ _ _ _ _ _ _ J24 J44 RU RE hgd24 hgd44 RDD R21 R1 HO1 HED HET) ?_
              · intro a9 W9 hsz9 hdf9 hL9 hbs hsl
                obtain ⟨v9, h9, q9⟩ := hsl 24 _ _ rfl rfl
                obtain rfl : v9 = .bool false := q9
                have w249 := slot_getD h9
                clear h9
                refine hKN _ _ ?_
                obtain ⟨T9, df9⟩ := a9
                obtain rfl : df9 = [] := hdf9
                obtain ⟨f, hf, rfl⟩ := spell313 T9 hsz9
                have X9 := fun k v h => (hf k).trans (slot_getD (hbs k v h))
                have x249 := (hf 249).trans w249
                clear hbs hsl hf hsz9 hKN w249
                simp only [X9 1 _ rfl, X9 19 _ rfl, X9 20 _ rfl, X9 21 _ rfl, X9 22 _ rfl, X9 0 _ rfl, X9 2 _ rfl, X9 3 _ rfl, X9 4 _ rfl, X9 5 _ rfl, X9 6 _ rfl, X9 7 _ rfl, X9 8 _ rfl, X9 9 _ rfl, X9 10 _ rfl, X9 11 _ rfl, X9 12 _ rfl, X9 13 _ rfl, X9 14 _ rfl, X9 15 _ rfl, X9 16 _ rfl, X9 17 _ rfl, X9 18 _ rfl, X9 23 _ rfl, X9 24 _ rfl, X9 25 _ rfl, X9 26 _ rfl, X9 27 _ rfl, X9 28 _ rfl, X9 29 _ rfl, X9 30 _ rfl, X9 31 _ rfl, X9 32 _ rfl, X9 33 _ rfl, X9 34 _ rfl, X9 35 _ rfl, X9 36 _ rfl, X9 37 _ rfl, X9 38 _ rfl, X9 39 _ rfl, X9 40 _ rfl, X9 41 _ rfl, X9 42 _ rfl, X9 43 _ rfl, X9 44 _ rfl, X9 45 _ rfl, X9 46 _ rfl, X9 47 _ rfl, X9 48 _ rfl, X9 49 _ rfl, X9 50 _ rfl, X9 51 _ rfl, X9 52 _ rfl, X9 53 _ rfl, X9 54 _ rfl, X9 55 _ rfl, X9 56 _ rfl, X9 57 _ rfl, X9 58 _ rfl, X9 59 _ rfl, X9 60 _ rfl, X9 61 _ rfl, X9 62 _ rfl, X9 63 _ rfl, X9 64 _ rfl, X9 65 _ rfl, X9 66 _ rfl, X9 67 _ rfl, X9 68 _ rfl, X9 69 _ rfl, X9 70 _ rfl, X9 71 _ rfl, X9 72 _ rfl, X9 73 _ rfl, X9 74 _ rfl, X9 75 _ rfl, X9 76 _ rfl, X9 77 _ rfl, X9 78 _ rfl, X9 79 _ rfl, X9 80 _ rfl, X9 81 _ rfl, X9 82 _ rfl, X9 83 _ rfl, X9 84 _ rfl, X9 85 _ rfl, X9 86 _ rfl, X9 87 _ rfl, X9 88 _ rfl, X9 89 _ rfl, X9 90 _ rfl, X9 91 _ rfl, X9 92 _ rfl, X9 93 _ rfl, X9 94 _ rfl, X9 95 _ rfl, X9 96 _ rfl, X9 97 _ rfl, X9 98 _ rfl, X9 99 _ rfl, X9 100 _ rfl, X9 101 _ rfl, X9 102 _ rfl, X9 103 _ rfl, X9 104 _ rfl, X9 105 _ rfl, X9 106 _ rfl, X9 107 _ rfl, X9 108 _ rfl, X9 109 _ rfl, X9 110 _ rfl, X9 111 _ rfl, X9 112 _ rfl, X9 113 _ rfl, X9 114 _ rfl, X9 115 _ rfl, X9 116 _ rfl, X9 117 _ rfl, X9 118 _ rfl, X9 119 _ rfl, X9 120 _ rfl, X9 121 _ rfl, X9 122 _ rfl, X9 123 _ rfl, X9 124 _ rfl, X9 125 _ rfl, X9 126 _ rfl, X9 127 _ rfl, X9 128 _ rfl, X9 129 _ rfl, X9 130 _ rfl, X9 131 _ rfl, X9 132 _ rfl, X9 133 _ rfl, X9 134 _ rfl, X9 135 _ rfl, X9 136 _ rfl, X9 137 _ rfl, X9 138 _ rfl, X9 139 _ rfl, X9 140 _ rfl, X9 141 _ rfl, X9 142 _ rfl, X9 143 _ rfl, X9 144 _ rfl, X9 145 _ rfl, X9 146 _ rfl, X9 147 _ rfl, X9 148 _ rfl, X9 149 _ rfl, X9 150 _ rfl, X9 151 _ rfl, X9 152 _ rfl, X9 153 _ rfl, X9 154 _ rfl, X9 155 _ rfl, X9 156 _ rfl, X9 157 _ rfl, X9 158 _ rfl, X9 159 _ rfl, X9 160 _ rfl, X9 161 _ rfl, X9 162 _ rfl, X9 163 _ rfl, X9 164 _ rfl, X9 165 _ rfl, X9 166 _ rfl, X9 167 _ rfl, X9 168 _ rfl, X9 169 _ rfl, X9 170 _ rfl, X9 171 _ rfl, X9 172 _ rfl, X9 173 _ rfl, X9 174 _ rfl, X9 175 _ rfl, X9 176 _ rfl, X9 177 _ rfl, X9 178 _ rfl, X9 179 _ rfl, X9 180 _ rfl, X9 181 _ rfl, X9 182 _ rfl, X9 183 _ rfl, X9 184 _ rfl, X9 185 _ rfl, X9 186 _ rfl, X9 187 _ rfl, X9 188 _ rfl, X9 189 _ rfl, X9 190 _ rfl, X9 191 _ rfl, X9 192 _ rfl, X9 193 _ rfl, X9 194 _ rfl, X9 195 _ rfl, X9 196 _ rfl, X9 197 _ rfl, X9 198 _ rfl, X9 199 _ rfl, X9 200 _ rfl, X9 201 _ rfl, X9 202 _ rfl, X9 203 _ rfl, X9 204 _ rfl, X9 205 _ rfl, X9 206 _ rfl, X9 207 _ rfl, X9 208 _ rfl, X9 209 _ rfl, X9 210 _ rfl, X9 211 _ rfl, X9 212 _ rfl, X9 213 _ rfl, X9 214 _ rfl, X9 215 _ rfl, X9 216 _ rfl, X9 217 _ rfl, X9 218 _ rfl, X9 219 _ rfl, X9 220 _ rfl, X9 221 _ rfl, X9 222 _ rfl, X9 223 _ rfl, X9 224 _ rfl, X9 250 _ rfl, X9 251 _ rfl, X9 252 _ rfl, X9 253 _ rfl, X9 254 _ rfl, X9 255 _ rfl, X9 256 _ rfl, X9 257 _ rfl, X9 258 _ rfl, X9 259 _ rfl, X9 260 _ rfl, X9 261 _ rfl, X9 262 _ rfl, X9 263 _ rfl, X9 264 _ rfl, X9 265 _ rfl, X9 266 _ rfl, X9 267 _ rfl, X9 268 _ rfl, X9 269 _ rfl, X9 270 _ rfl, X9 271 _ rfl, X9 272 _ rfl, X9 273 _ rfl, X9 274 _ rfl, X9 275 _ rfl, X9 276 _ rfl, X9 277 _ rfl, X9 278 _ rfl, X9 279 _ rfl, X9 280 _ rfl, X9 281 _ rfl, X9 282 _ rfl, X9 283 _ rfl, X9 284 _ rfl, X9 285 _ rfl, X9 286 _ rfl, X9 287 _ rfl, X9 288 _ rfl, X9 289 _ rfl, X9 290 _ rfl, X9 291 _ rfl, X9 292 _ rfl, X9 293 _ rfl, X9 294 _ rfl, X9 295 _ rfl, X9 296 _ rfl, X9 297 _ rfl, X9 298 _ rfl, X9 299 _ rfl, X9 300 _ rfl, X9 301 _ rfl, X9 302 _ rfl, X9 303 _ rfl, X9 304 _ rfl, X9 305 _ rfl, X9 306 _ rfl, X9 307 _ rfl, X9 308 _ rfl, X9 309 _ rfl, X9 310 _ rfl, X9 311 _ rfl, X9 312 _ rfl, x249]
                clear x249 X9
                replace k1 := k1.later hL9
                replace l0 := l0.trans hL9
                replace lx := lx.trans hL9
                clear hL9 RU RE RDD R21 R1 HCO k19 k21 HED HET
                go_wp2
                go_roundw
                case rel => first | exact ⟨_, _, _, _, _, .int .i64 ((j : Int) + 1), ⟨j + 1, by omega, by go_num⟩, rfl, rfl, rfl, rfl, rfl, rfl⟩ | exact ⟨j + 1, by omega, by go_num, k1, l0, lx⟩ | exact ⟨_, _, _, _, _, _, _, _, _, _, _, _, _, _, _, _, _, _, _, _, _, _, _, _, _, _, _, _, _, _, _, _, _, _, _, _, _, _, _, _, _, _, ⟨j + 1, by omega, by go_num, k1, l0, lx⟩, rfl⟩ | exact ⟨_, _, _, _, _, _, _, _, _, _, _, _, _, _, _, _, _, _, _, _, _, _, _, _, _, _, _, _, _, _, _, _, _, _, _, _, _, _, _, _, _, ⟨j + 1, by omega, by go_num, k1, l0, lx⟩, rfl⟩ | exact ⟨_, _, _, _, _, _, _, _, _, _, _, _, _, _, _, _, _, _, _, _, _, _, _, _, _, _, _, _, _, _, _, _, _, _, _, _, _, _, _, _, _, _, _, ⟨j + 1, by omega, by go_num, k1, l0, lx⟩, rfl⟩ | exact ⟨_, _, _, _, _, _, _, _, _, _, _, _, _, _, _, _, _, _, _, _, _, _, _, _, _, _, _, _, _, _, _, _, _, _, _, _, _, _, _, _, ⟨j + 1, by omega, by go_num, k1, l0, lx⟩, rfl⟩ | exact ⟨_, _, _, _, _, _, _, _, _, _, _, _, _, _, _, _, _, _, _, _, _, _, _, _, _, _, _, _, _, _, _, _, _, _, _, _, _, _, _, _, _, _, _, _, ⟨j + 1, by omega, by go_num, k1, l0, lx⟩, rfl⟩ | exact ⟨_, _, _, _, _, _, _, _, _, _, _, _, _, _, _, _, _, _, _, _, _, _, _, _, _, _, _, _, _, _, _, _, _, _, _, _, _, _, _, ⟨j + 1, by omega, by go_num, k1, l0, lx⟩, rfl⟩ | exact ⟨_, _, _, _, _, _, _, _, _, _, _, _, _, _, _, _, _, _, _, _, _, _, _, _, _, _, _, _, _, _, _, _, _, _, _, _, _, _, _, _, _, _, _, _, _, ⟨j + 1, by omega, by go_num, k1, l0, lx⟩, rfl⟩ | exact ⟨_, _, _, _, _, _, _, _, _, _, _, _, _, _, _, _, _, _, _, _, _, _, _, _, _, _, _, _, _, _, _, _, _, _, _, _, _, _, ⟨j + 1, by omega, by go_num, k1, l0, lx⟩, rfl⟩ | exact ⟨_, _, _, _, _, _, _, _, _, _, _, _, _, _, _, _, _, _, _, _, _, _, _, _, _, _, _, _, _, _, _, _, _, _, _, _, _, _, _, _, _, _, _, _, _, _, ⟨j + 1, by omega, by go_num, k1, l0, lx⟩, rfl⟩
                case measure => simp [intOf]; omega
            | false =>
              as_aux_lemma =>
              go_upto_region 19 with (fail)
              rename_i KN hKN
              refine wp_region_slotsG (ck19p_rows N D o1 up 0 t g1 g19 g21) (ck19p_base N D o1 up 0 t g1 g19 g21 _ _ _ _ _ _ _ _ _ _ _ _ _ _ _ _ _ _ _ _ _ _ _ _ _ _ _ _ _ _ _ _ _ _ _ _ _ _ _ _ _ _ _ _ _ _ _ _ _ _ _ _ _ _ _ _ _ _ _ _ _ _ _ _ _ _ _ _ _ _ _ _ _ _ _ _ _ _ _ _ _ _ _ _ _ _ _ _ _ _ _ _ _ _ _ _ _ _ _ _ _ _ _ _ _ _ _ _ _ _ _ _ _ _ _ _ _ _ _ _ _ _ _ _ _ _ _ _ _ _ _ _ _ _ _ _ _ _ _ _ _ _ _ _ _ _ _ _ _ _ _ _ _ _ _ _ _ _ _ _ _ _ _ _ _ _ _ _ _ _ _ _ _ _ _ _ _ _ _ _ _ _ _ _ _ _ _ _ _ _ _ _ _ _ _ _ _ _ _ _ _ _ _ _ _ _ _ _ _ _ _ _ _ _ _ _ _ _ _ _ _ _ _ _ _ _ _ _ _ _ _ _ _ _ _ _ _ _ _ _ _ _ _ _ _ _ _ _ _ _ _ _ _ _ _ _ _ _ _ _ _ _ _ _ _ _ _ _ _ _ _ _ _ _ _ _ _ _ _ _ _ _ _) 313 25 [[], [], [1], [0, 2], [3], [4], [4], [6, 4], [5, 7, 4], [4, 8], [9, 4], [10], [11, 10], [12, 10, 10], [13], [14, 13], [15, 13], [13, 13], [16, 17, 13], [13], [13], [19, 20, 13], [18, 21, 13], [13, 22, 10], [10, 23]] (by kernel_rfl) (by kernel_rfl) (by kernel_rfl) (by kernel_rfl) (by kernel_rfl) (by kernel_rfl) (by rfl) rfl (base_of (base_cons rfl (base_cons rfl (base_cons rfl (base_cons rfl (base_cons rfl (base_cons rfl (base_cons rfl (base_cons rfl (base_cons rfl (base_cons rfl (base_cons rfl (base_cons rfl (base_cons rfl (base_cons rfl (base_cons rfl (base_cons rfl (base_cons rfl (base_cons rfl (base_cons rfl (base_cons rfl (base_cons rfl (base_cons rfl (base_cons rfl (base_cons rfl (base_cons rfl (base_cons rfl (base_cons rfl (base_cons rfl (base_cons rfl (base_cons rfl (base_cons rfl (base_cons rfl (base_cons rfl (base_cons rfl (base_cons rfl (base_cons rfl (base_cons rfl (base_cons rfl (base_cons rfl (base_cons rfl (base_cons rfl (base_cons rfl (base_cons rfl (base_cons rfl (base_cons rfl (base_cons rfl (base_cons rfl (base_cons rfl (base_cons rfl (base_cons rfl (base_cons rfl (base_cons rfl (base_cons rfl (base_cons rfl (base_cons rfl (base_cons rfl (base_cons rfl (base_cons rfl (base_cons rfl (base_cons rfl (base_cons rfl (base_cons rfl (base_cons rfl (base_cons rfl (base_cons rfl (base_cons rfl (base_cons rfl (base_cons rfl (base_cons rfl (base_cons rfl (base_cons rfl (base_cons rfl (base_cons rfl (base_cons rfl (base_cons rfl (base_cons rfl (base_cons rfl (base_cons rfl (base_cons rfl (base_cons rfl (base_cons rfl (base_cons rfl (base_cons rfl (base_cons rfl (base_cons rfl (base_cons rfl (base_cons rfl (base_cons rfl (base_cons rfl (base_cons rfl (base_cons rfl (base_cons rfl (base_cons rfl (base_cons rfl (base_cons rfl (base_cons rfl (base_cons rfl (base_cons rfl (base_cons rfl (base_cons rfl (base_cons rfl (base_cons rfl (base_cons rfl (base_cons rfl (base_cons rfl (base_cons rfl (base_cons rfl (base_cons rfl (base_cons rfl (base_cons rfl (base_cons rfl (base_cons rfl (base_cons rfl (base_cons rfl (base_cons rfl (base_cons rfl (base_cons rfl (base_cons rfl (base_cons rfl (base_cons rfl (base_cons rfl (base_cons rfl (base_cons rfl (base_cons rfl (base_cons rfl (base_cons rfl (base_cons rfl (base_cons rfl (base_cons rfl (base_cons rfl (base_cons rfl (base_cons rfl (base_cons rfl (base_cons rfl (base_cons rfl (base_cons rfl (base_cons rfl (base_cons rfl (base_cons rfl (base_cons rfl (base_cons rfl (base_cons rfl (base_cons rfl (base_cons rfl (base_cons rfl (base_cons rfl (base_cons rfl (base_cons rfl (base_cons rfl (base_cons rfl (base_cons rfl (base_cons rfl (base_cons rfl (base_cons rfl (base_cons rfl (base_cons rfl (base_cons rfl (base_cons rfl (base_cons rfl (base_cons rfl (base_cons rfl (base_cons rfl (base_cons rfl (base_cons rfl (base_cons rfl (base_cons rfl (base_cons rfl (base_cons rfl (base_cons rfl (base_cons rfl (base_cons rfl (base_cons rfl (base_cons rfl (base_cons rfl (base_cons rfl (base_cons rfl (base_cons rfl (base_cons rfl (base_cons rfl (base_cons rfl (base_cons rfl (base_cons rfl (base_cons rfl (base_cons rfl (base_cons rfl (base_cons rfl (base_cons rfl (base_cons rfl (base_cons rfl (base_cons rfl (base_cons rfl (base_cons rfl (base_cons rfl (base_cons rfl (base_cons rfl (base_cons rfl (base_cons rfl (base_cons rfl (base_cons rfl (base_cons rfl (base_cons rfl (base_cons rfl (base_cons rfl (base_cons rfl (base_cons rfl (base_cons rfl (base_cons rfl (base_cons rfl (base_cons rfl (base_cons rfl (base_cons rfl (base_cons rfl (base_cons rfl (base_cons rfl (base_cons rfl (base_cons rfl (base_cons rfl (base_cons rfl (base_cons rfl (base_cons rfl (base_cons rfl (base_cons rfl (base_cons rfl (base_cons rfl (base_cons rfl (base_cons rfl (base_cons rfl (base_cons rfl (base_cons rfl (base_cons rfl (base_cons rfl (base_cons rfl (base_cons rfl (base_cons rfl (base_cons rfl (base_cons rfl (base_cons rfl (base_cons rfl (base_cons rfl (base_cons rfl (base_cons rfl (base_cons rfl (base_cons rfl (base_cons rfl (base_cons rfl (base_cons rfl (base_cons rfl (base_cons rfl (base_cons rfl (base_cons rfl (base_cons rfl (base_cons rfl (base_cons rfl (base_cons rfl (base_cons rfl (base_cons rfl (base_cons rfl (base_cons rfl (base_cons rfl (base_cons rfl (base_cons rfl (base_cons rfl (base_cons rfl (base_cons rfl (base_cons rfl (base_cons rfl (base_cons rfl (base_cons rfl (base_cons rfl (base_cons rfl (base_cons rfl (base_cons rfl (base_cons rfl (base_cons rfl (base_cons rfl (base_cons rfl (base_cons rfl (base_cons rfl (base_cons rfl (base_cons rfl (base_cons rfl (base_cons rfl (base_cons rfl (base_cons rfl (base_cons rfl (base_cons rfl (base_cons rfl (base_cons rfl (base_nil _)))))))))))))))))))))))))))))))))))))))))))))))))))))))))))))))))))))))))))))))))))))))))))))))))))))))))))))))))))))))))))))))))))))))))))))))))))))))))))))))))))))))))))))))))))))))))))))))))))))))))))))))))))))))))))))))))))))))))))))))))))))))))))))))))))))))))))))))))))))))))))))))))) (ck19p_steps T3 N D o1 up 0 t g1 g19 g21 _ _ _ _ _ _ _ _ _ _ _ _ _ _ _ _ _ _ _ _ _ _ _ _ _ _ _ _ _ _ _ _ _ _ _ _ _ _ _ _ _ _ _ _ _ _ _ _ _ _ _ _ _ _ _ _ _ _ _ _ _ _ _ _ _ _ _ _ _ _ _ _ _ _ _ _ _ _ _ _ _ _ _ _ _ _ _ _ _ _ _ _ _ _ _ _ _ _ _ _ _ _ _ _ _ _ _ _ _ _ _ _ _ _ _ _ _ _ _ _ _ _ _ _ _ _ _ _ _ _ _ _ _ _ _ _ _ _ _ _ _ _ _ _ _ _ _ _ _ _ _ _ _ _ _ _ _ _ _ _ _ _ _ _ _ _ _ _ _ _ _ _ _ _ _ _ _ _ _ _ _ _ _ _ _ _ _ _ _ _ _ _ _ _ _ _ _ _ _ _ _ _ _ _ _ _ _ _ _ _ _ _ _ _ _ _ _ _ _ _ _ _ _ _ _ _ _ _ _ _ _ _ _ _ _ _ _ _ _ _ _ _ _ _ _ _ _ _ _ _ _ _ _ _ _ _ _ _ _ _ _ _ _ _ _ _ _ _ _ _ _ _ _ _ _ _ _ _ _ _ _ _ _ J24 J44 RU RE hgd24 hgd44 RDD R21 R1 HO1 HED HET) ?_
              · intro a9 W9 hsz9 hdf9 hL9 hbs hsl
                obtain ⟨v9, h9, q9⟩ := hsl 24 _ _ rfl rfl
                obtain rfl : v9 = .bool false := q9
                have w249 := slot_getD h9
                clear h9
                refine hKN _ _ ?_
                obtain ⟨T9, df9⟩ := a9
                obtain rfl : df9 = [] := hdf9
                obtain ⟨f, hf, rfl⟩ := spell313 T9 hsz9
                have X9 := fun k v h => (hf k).trans (slot_getD (hbs k v h))
                have x249 := (hf 249).trans w249
                clear hbs hsl hf hsz9 hKN w249
                simp only [X9 1 _ rfl, X9 19 _ rfl, X9 20 _ rfl, X9 21 _ rfl, X9 22 _ rfl, X9 0 _ rfl, X9 2 _ rfl, X9 3 _ rfl, X9 4 _ rfl, X9 5 _ rfl, X9 6 _ rfl, X9 7 _ rfl, X9 8 _ rfl, X9 9 _ rfl, X9 10 _ rfl, X9 11 _ rfl, X9 12 _ rfl, X9 13 _ rfl, X9 14 _ rfl, X9 15 _ rfl, X9 16 _ rfl, X9 17 _ rfl, X9 18 _ rfl, X9 23 _ rfl, X9 24 _ rfl, X9 25 _ rfl, X9 26 _ rfl, X9 27 _ rfl, X9 28 _ rfl, X9 29 _ rfl, X9 30 _ rfl, X9 31 _ rfl, X9 32 _ rfl, X9 33 _ rfl, X9 34 _ rfl, X9 35 _ rfl, X9 36 _ rfl, X9 37 _ rfl, X9 38 _ rfl, X9 39 _ rfl, X9 40 _ rfl, X9 41 _ rfl, X9 42 _ rfl, X9 43 _ rfl, X9 44 _ rfl, X9 45 _ rfl, X9 46 _ rfl, X9 47 _ rfl, X9 48 _ rfl, X9 49 _ rfl, X9 50 _ rfl, X9 51 _ rfl, X9 52 _ rfl, X9 53 _ rfl, X9 54 _ rfl, X9 55 _ rfl, X9 56 _ rfl, X9 57 _ rfl, X9 58 _ rfl, X9 59 _ rfl, X9 60 _ rfl, X9 61 _ rfl, X9 62 _ rfl, X9 63 _ rfl, X9 64 _ rfl, X9 65 _ rfl, X9 66 _ rfl, X9 67 _ rfl, X9 68 _ rfl, X9 69 _ rfl, X9 70 _ rfl, X9 71 _ rfl, X9 72 _ rfl, X9 73 _ rfl, X9 74 _ rfl, X9 75 _ rfl, X9 76 _ rfl, X9 77 _ rfl, X9 78 _ rfl, X9 79 _ rfl, X9 80 _ rfl, X9 81 _ rfl, X9 82 _ rfl, X9 83 _ rfl, X9 84 _ rfl, X9 85 _ rfl, X9 86 _ rfl, X9 87 _ rfl, X9 88 _ rfl, X9 89 _ rfl, X9 90 _ rfl, X9 91 _ rfl, X9 92 _ rfl, X9 93 _ rfl, X9 94 _ rfl, X9 95 _ rfl, X9 96 _ rfl, X9 97 _ rfl, X9 98 _ rfl, X9 99 _ rfl, X9 100 _ rfl, X9 101 _ rfl, X9 102 _ rfl, X9 103 _ rfl, X9 104 _ rfl, X9 105 _ rfl, X9 106 _ rfl, X9 107 _ rfl, X9 108 _ rfl, X9 109 _ rfl, X9 110 _ rfl, X9 111 _ rfl, X9 112 _ rfl, X9 113 _ rfl, X9 114 _ rfl, X9 115 _ rfl, X9 116 _ rfl, X9 117 _ rfl, X9 118 _ rfl, X9 119 _ rfl, X9 120 _ rfl, X9 121 _ rfl, X9 122 _ rfl, X9 123 _ rfl, X9 124 _ rfl, X9 125 _ rfl, X9 126 _ rfl, X9 127 _ rfl, X9 128 _ rfl, X9 129 _ rfl, X9 130 _ rfl, X9 131 _ rfl, X9 132 _ rfl, X9 133 _ rfl, X9 134 _ rfl, X9 135 _ rfl, X9 136 _ rfl, X9 137 _ rfl, X9 138 _ rfl, X9 139 _ rfl, X9 140 _ rfl, X9 141 _ rfl, X9 142 _ rfl, X9 143 _ rfl, X9 144 _ rfl, X9 145 _ rfl, X9 146 _ rfl, X9 147 _ rfl, X9 148 _ rfl, X9 149 _ rfl, X9 150 _ rfl, X9 151 _ rfl, X9 152 _ rfl, X9 153 _ rfl, X9 154 _ rfl, X9 155 _ rfl, X9 156 _ rfl, X9 157 _ rfl, X9 158 _ rfl, X9 159 _ rfl, X9 160 _ rfl, X9 161 _ rfl, X9 162 _ rfl, X9 163 _ rfl, X9 164 _ rfl, X9 165 _ rfl, X9 166 _ rfl, X9 167 _ rfl, X9 168 _ rfl, X9 169 _ rfl, X9 170 _ rfl, X9 171 _ rfl, X9 172 _ rfl, X9 173 _ rfl, X9 174 _ rfl, X9 175 _ rfl, X9 176 _ rfl, X9 177 _ rfl, X9 178 _ rfl, X9 179 _ rfl, X9 180 _ rfl, X9 181 _ rfl, X9 182 _ rfl, X9 183 _ rfl, X9 184 _ rfl, X9 185 _ rfl, X9 186 _ rfl, X9 187 _ rfl, X9 188 _ rfl, X9 189 _ rfl, X9 190 _ rfl, X9 191 _ rfl, X9 192 _ rfl, X9 193 _ rfl, X9 194 _ rfl, X9 195 _ rfl, X9 196 _ rfl, X9 197 _ rfl, X9 198 _ rfl, X9 199 _ rfl, X9 200 _ rfl, X9 201 _ rfl, X9 202 _ rfl, X9 203 _ rfl, X9 204 _ rfl, X9 205 _ rfl, X9 206 _ rfl, X9 207 _ rfl, X9 208 _ rfl, X9 209 _ rfl, X9 210 _ rfl, X9 211 _ rfl, X9 212 _ rfl, X9 213 _ rfl, X9 214 _ rfl, X9 215 _ rfl, X9 216 _ rfl, X9 217 _ rfl, X9 218 _ rfl, X9 219 _ rfl, X9 220 _ rfl, X9 221 _ rfl, X9 222 _ rfl, X9 223 _ rfl, X9 224 _ rfl, X9 250 _ rfl, X9 251 _ rfl, X9 252 _ rfl, X9 253 _ rfl, X9 254 _ rfl, X9 255 _ rfl, X9 256 _ rfl, X9 257 _ rfl, X9 258 _ rfl, X9 259 _ rfl, X9 260 _ rfl, X9 261 _ rfl, X9 262 _ rfl, X9 263 _ rfl, X9 264 _ rfl, X9 265 _ rfl, X9 266 _ rfl, X9 267 _ rfl, X9 268 _ rfl, X9 269 _ rfl, X9 270 _ rfl, X9 271 _ rfl, X9 272 _ rfl, X9 273 _ rfl, X9 274 _ rfl, X9 275 _ rfl, X9 276 _ rfl, X9 277 _ rfl, X9 278 _ rfl, X9 279 _ rfl, X9 280 _ rfl, X9 281 _ rfl, X9 282 _ rfl, X9 283 _ rfl, X9 284 _ rfl, X9 285 _ rfl, X9 286 _ rfl, X9 287 _ rfl, X9 288 _ rfl, X9 289 _ rfl, X9 290 _ rfl, X9 291 _ rfl, X9 292 _ rfl, X9 293 _ rfl, X9 294 _ rfl, X9 295 _ rfl, X9 296 _ rfl, X9 297 _ rfl, X9 298 _ rfl, X9 299 _ rfl, X9 300 _ rfl, X9 301 _ rfl, X9 302 _ rfl, X9 303 _ rfl, X9 304 _ rfl, X9 305 _ rfl, X9 306 _ rfl, X9 307 _ rfl, X9 308 _ rfl, X9 309 _ rfl, X9 310 _ rfl, X9 311 _ rfl, X9 312 _ rfl, x249]
                clear x249 X9
                replace k1 := k1.later hL9
                replace l0 := l0.trans hL9
                replace lx := lx.trans hL9
                clear hL9 RU RE RDD R21 R1 HCO k19 k21 HED HET
                go_wp2
                go_roundw
                case rel => first | exact ⟨_, _, _, _, _, .int .i64 ((j : Int) + 1), ⟨j + 1, by omega, by go_num⟩, rfl, rfl, rfl, rfl, rfl, rfl⟩ | exact ⟨j + 1, by omega, by go_num, k1, l0, lx⟩ | exact ⟨_, _, _, _, _, _, _, _, _, _, _, _, _, _, _, _, _, _, _, _, _, _, _, _, _, _, _, _, _, _, _, _, _, _, _, _, _, _, _, _, _, _, ⟨j + 1, by omega, by go_num, k1, l0, lx⟩, rfl⟩ | exact ⟨_, _, _, _, _, _, _, _, _, _, _, _, _, _, _, _, _, _, _, _, _, _, _, _, _, _, _, _, _, _, _, _, _, _, _, _, _, _, _, _, _, ⟨j + 1, by omega, by go_num, k1, l0, lx⟩, rfl⟩ | exact ⟨_, _, _, _, _, _, _, _, _, _, _, _, _, _, _, _, _, _, _, _, _, _, _, _, _, _, _, _, _, _, _, _, _, _, _, _, _, _, _, _, _, _, _, ⟨j + 1, by omega, by go_num, k1, l0, lx⟩, rfl⟩ | exact ⟨_, _, _, _, _, _, _, _, _, _, _, _, _, _, _, _, _, _, _, _, _, _, _, _, _, _, _, _, _, _, _, _, _, _, _, _, _, _, _, _, ⟨j + 1, by omega, by go_num, k1, l0, lx⟩, rfl⟩ | exact ⟨_, _, _, _, _, _, _, _, _, _, _, _, _, _, _, _, _, _, _, _, _, _, _, _, _, _, _, _, _, _, _, _, _, _, _, _, _, _, _, _, _, _, _, _, ⟨j + 1, by omega, by go_num, k1, l0, lx⟩, rfl⟩ | exact ⟨_, _, _, _, _, _, _, _, _, _, _, _, _, _, _, _, _, _, _, _, _, _, _, _, _, _, _, _, _, _, _, _, _, _, _, _, _, _, _, ⟨j + 1, by omega, by go_num, k1, l0, lx⟩, rfl⟩ | exact ⟨_, _, _, _, _, _, _, _, _, _, _, _, _, _, _, _, _, _, _, _, _, _, _, _, _, _, _, _, _, _, _, _, _, _, _, _, _, _, _, _, _, _, _, _, _, ⟨j + 1, by omega, by go_num, k1, l0, lx⟩, rfl⟩ | exact ⟨_, _, _, _, _, _, _, _, _, _, _, _, _, _, _, _, _, _, _, _, _, _, _, _, _, _, _, _, _, _, _, _, _, _, _, _, _, _, ⟨j + 1, by omega, by go_num, k1, l0, lx⟩, rfl⟩ | exact ⟨_, _, _, _, _, _, _, _, _, _, _, _, _, _, _, _, _, _, _, _, _, _, _, _, _, _, _, _, _, _, _, _, _, _, _, _, _, _, _, _, _, _, _, _, _, _, ⟨j + 1, by omega, by go_num, k1, l0, lx⟩, rfl⟩
                case measure => simp [intOf]; omega
        · as_aux_lemma =>
          obtain rfl : j = 7 := by omega
          clear RM HR lx hj hlt
          go_upto_region 22 with (fail)
          have yk1_0 := k1.cell 0
          go_wp2_with fail
          refine (ckShuf0 wr).mono ?_
          rintro e S1 ⟨gs, rfl, la⟩
          clear yk1_0
          replace k1 := k1.later la
          replace l0 := l0.trans la
          clear la
          go_upto_region 23 with (fail)
          refine name1 (Q := fun W => Code.wp _ _ _ _ W) ?_
          intro S2 la hs k24
          obtain ⟨g24, hg24⟩ : ∃ z, S1.heap.size = z := ⟨_, rfl⟩
          have hb_24 : w.heap.size ≤ g24 := by rw [← hg24]; exact l0.size
          rw [hg24] at k24 ⊢
          replace k1 := k1.later la
          replace l0 := l0.trans la
          clear la hs hg24
          have yk1_0 := k1.cell 0
          go_wp2_with fail
          refine (ckShufN S2).mono ?_
          rintro e S3 ⟨rfl, la⟩
          clear yk1_0
          replace k1 := k1.later la
          replace k24 := k24.later la
          replace l0 := l0.trans la
          clear la
          go_upto_region 24 with (fail)
          refine name1 (Q := fun W => Code.wp _ _ _ _ W) ?_
          intro S4 la hs k27
          obtain ⟨g27, hg27⟩ : ∃ z, S3.heap.size = z := ⟨_, rfl⟩
          have hb_27 : w.heap.size ≤ g27 := by rw [← hg27]; exact l0.size
          rw [hg27] at k27 ⊢
          replace k1 := k1.later la
          replace k24 := k24.later la
          replace l0 := l0.trans la
          clear la hs hg27
          clear k27
          have yk1_0 := k1.cell 0
          go_wp2_with fail
          refine (ckShuf400 S4).mono ?_
          rintro e S5 ⟨ga, st, rfl, la⟩
          clear yk1_0
          replace k1 := k1.later la
          replace k24 := k24.later la
          replace l0 := l0.trans la
          clear la
          go_upto_region 25 with (fail)
          refine name1 (Q := fun W => Code.wp _ _ _ _ W) ?_
          intro S6 la hs k30
          obtain ⟨g30, hg30⟩ : ∃ z, S5.heap.size = z := ⟨_, rfl⟩
          have hb_30 : w.heap.size ≤ g30 := by rw [← hg30]; exact l0.size
          rw [hg30] at k30 ⊢
          replace k1 := k1.later la
          replace k24 := k24.later la
          replace l0 := l0.trans la
          clear la hs hg30
          clear k30
          have R1 : ∀ w', Lat S6 w' → w'.rangeAt g1 0 [.int .u64 0] := fun w' hl => (k1.later hl).rangeAll
          have R24 : ∀ w', Lat S6 w' → w'.rangeAt g24 0 [.int .u64 0] := fun w' hl => (k24.later hl).rangeAll
          obtain ⟨sp, HN24, HSP⟩ := ckSplitF
          have HWK := works_any
          have HBF := ckBefore
          go_upto_region 25 with (fail)
          rename_i KN hKN
          refine wp_region_slots (ck25_rows sp g1 g24 gs ga) (ck25_base sp g1 g24 gs ga _ _ _ _ _ _ _ _ _ _ _ _ _ _ _ _ _ _ _ _ _ _ _ _ _ _ _ _ _ _ _ _ _ _ _ _ _ _ _ _ _ _ _ _ _ _ _ _ _ _ _ _ _ _ _ _ _ _ _ _ _ _ _ _ _ _ _ _ _ _ _ _ _ _ _ _ _ _ _ _ _ _ _ _ _ _ _ _ _ _ _ _ _ _ _ _ _ _ _ _ _ _ _ _ _ _ _ _ _ _ _ _ _ _ _ _ _ _ _ _ _ _ _ _ _ _ _ _ _ _ _ _ _ _ _ _ _ _ _ _ _ _ _ _ _ _ _ _ _ _ _ _ _ _ _ _ _ _ _ _ _ _ _ _ _ _ _ _ _ _ _ _ _ _ _ _ _ _ _ _ _ _ _ _ _ _ _ _ _ _ _ _ _ _ _ _ _ _ _ _ _ _ _ _ _ _ _ _ _ _ _ _ _ _ _ _ _ _ _ _ _ _ _ _ _ _ _ _ _ _ _ _ _ _ _ _ _ _ _ _ _ _ _ _ _ _ _ _ _ _ _ _ _ _ _ _ _ _ _ _) 313 45 [[], [0, 0], [0, 1], [2, 1], [3], [3, 4], [5, 3], [6], [7, 6], [8, 6], [6, 9], [10, 6], [11], [11], [12, 13, 11], [11, 14], [15, 11], [16], [17, 16], [16, 18], [19, 16], [20], [21, 20], [20, 22], [23, 20], [24], [25, 24], [26, 24], [24, 27], [28, 24], [29], [30, 29], [29, 31], [32, 29], [33, 33], [33], [34, 35, 33], [33, 36], [37, 34], [38], [39, 38, 38], [38], [40, 41, 38], [38, 42], [43, 40, 0, 1, 2, 3, 4, 5, 6, 7, 8, 9, 10, 11, 12, 13, 14, 15, 16, 17, 18, 19, 20, 21, 22, 23, 24, 25, 26, 27, 28, 29, 30, 31, 32, 33, 34, 35, 36, 37, 38, 39, 40, 41, 42, 43]] (by kernel_rfl) (by kernel_rfl) (by kernel_rfl) (by kernel_rfl) (by kernel_rfl) (by kernel_rfl) (by rfl) rfl (base_of (base_cons rfl (base_cons rfl (base_cons rfl (base_cons rfl (base_cons rfl (base_cons rfl (base_cons rfl (base_cons rfl (base_cons rfl (base_cons rfl (base_cons rfl (base_cons rfl (base_cons rfl (base_cons rfl (base_cons rfl (base_cons rfl (base_cons rfl (base_cons rfl (base_cons rfl (base_cons rfl (base_cons rfl (base_cons rfl (base_cons rfl (base_cons rfl (base_cons rfl (base_cons rfl (base_cons rfl (base_cons rfl (base_cons rfl (base_cons rfl (base_cons rfl (base_cons rfl (base_cons rfl (base_cons rfl (base_cons rfl (base_cons rfl (base_cons rfl (base_cons rfl (base_cons rfl (base_cons rfl (base_cons rfl (base_cons rfl (base_cons rfl (base_cons rfl (base_cons rfl (base_cons rfl (base_cons rfl (base_cons rfl (base_cons rfl (base_cons rfl (base_cons rfl (base_cons rfl (base_cons rfl (base_cons rfl (base_cons rfl (base_cons rfl (base_cons rfl (base_cons rfl (base_cons rfl (base_cons rfl (base_cons rfl (base_cons rfl (base_cons rfl (base_cons rfl (base_cons rfl (base_cons rfl (base_cons rfl (base_cons rfl (base_cons rfl (base_cons rfl (base_cons rfl (base_cons rfl (base_cons rfl (base_cons rfl (base_cons rfl (base_cons rfl (base_cons rfl (base_cons rfl (base_cons rfl (base_cons rfl (base_cons rfl (base_cons rfl (base_cons rfl (base_cons rfl (base_cons rfl (base_cons rfl (base_cons rfl (base_cons rfl (base_cons rfl (base_cons rfl (base_cons rfl (base_cons rfl (base_cons rfl (base_cons rfl (base_cons rfl (base_cons rfl (base_cons rfl (base_cons rfl (base_cons rfl (base_cons rfl (base_cons rfl (base_cons rfl (base_cons rfl (base_cons rfl (base_cons rfl (base_cons rfl (base_cons rfl (base_cons rfl (base_cons rfl (base_cons rfl (base_cons rfl (base_cons rfl (base_cons rfl (base_cons rfl (base_cons rfl (base_cons rfl (base_cons rfl (base_cons rfl (base_cons rfl (base_cons rfl (base_cons rfl (base_cons rfl (base_cons rfl (base_cons rfl (base_cons rfl (base_cons rfl (base_cons rfl (base_cons rfl (base_cons rfl (base_cons rfl (base_cons rfl (base_cons rfl (base_cons rfl (base_cons rfl (base_cons rfl (base_cons rfl (base_cons rfl (base_cons rfl (base_cons rfl (base_cons rfl (base_cons rfl (base_cons rfl (base_cons rfl (base_cons rfl (base_cons rfl (base_cons rfl (base_cons rfl (base_cons rfl (base_cons rfl (base_cons rfl (base_cons rfl (base_cons rfl (base_cons rfl (base_cons rfl (base_cons rfl (base_cons rfl (base_cons rfl (base_cons rfl (base_cons rfl (base_cons rfl (base_cons rfl (base_cons rfl (base_cons rfl (base_cons rfl (base_cons rfl (base_cons rfl (base_cons rfl (base_cons rfl (base_cons rfl (base_cons rfl (base_cons rfl (base_cons rfl (base_cons rfl (base_cons rfl (base_cons rfl (base_cons rfl (base_cons rfl (base_cons rfl (base_cons rfl (base_cons rfl (base_cons rfl (base_cons rfl (base_cons rfl (base_cons rfl (base_cons rfl (base_cons rfl (base_cons rfl (base_cons rfl (base_cons rfl (base_cons rfl (base_cons rfl (base_cons rfl (base_cons rfl (base_cons rfl (base_cons rfl (base_cons rfl (base_cons rfl (base_cons rfl (base_cons rfl (base_cons rfl (base_cons rfl (base_cons rfl (base_cons rfl (base_cons rfl (base_cons rfl (base_cons rfl (base_cons rfl (base_cons rfl (base_cons rfl (base_cons rfl (base_cons rfl (base_cons rfl (base_cons rfl (base_cons rfl (base_cons rfl (base_cons rfl (base_cons rfl (base_cons rfl (base_cons rfl (base_cons rfl (base_cons rfl (base_cons rfl (base_cons rfl (base_cons rfl (base_cons rfl (base_cons rfl (base_cons rfl (base_cons rfl (base_cons rfl (base_cons rfl (base_cons rfl (base_cons rfl (base_cons rfl (base_cons rfl (base_cons rfl (base_cons rfl (base_cons rfl (base_cons rfl (base_cons rfl (base_cons rfl (base_cons rfl (base_cons rfl (base_cons rfl (base_cons rfl (base_cons rfl (base_cons rfl (base_cons rfl (base_cons rfl (base_cons rfl (base_cons rfl (base_cons rfl (base_cons rfl (base_cons rfl (base_cons rfl (base_cons rfl (base_cons rfl (base_cons rfl (base_cons rfl (base_cons rfl (base_cons rfl (base_cons rfl (base_cons rfl (base_cons rfl (base_cons rfl (base_cons rfl (base_cons rfl (base_cons rfl (base_cons rfl (base_nil _)))))))))))))))))))))))))))))))))))))))))))))))))))))))))))))))))))))))))))))))))))))))))))))))))))))))))))))))))))))))))))))))))))))))))))))))))))))))))))))))))))))))))))))))))))))))))))))))))))))))))))))))))))))))))))))))))))))))))))))))))))))))))))))))))))))))))))))) (ck25_steps S6 sp g1 g24 gs ga _ _ _ _ _ _ _ _ _ _ _ _ _ _ _ _ _ _ _ _ _ _ _ _ _ _ _ _ _ _ _ _ _ _ _ _ _ _ _ _ _ _ _ _ _ _ _ _ _ _ _ _ _ _ _ _ _ _ _ _ _ _ _ _ _ _ _ _ _ _ _ _ _ _ _ _ _ _ _ _ _ _ _ _ _ _ _ _ _ _ _ _ _ _ _ _ _ _ _ _ _ _ _ _ _ _ _ _ _ _ _ _ _ _ _ _ _ _ _ _ _ _ _ _ _ _ _ _ _ _ _ _ _ _ _ _ _ _ _ _ _ _ _ _ _ _ _ _ _ _ _ _ _ _ _ _ _ _ _ _ _ _ _ _ _ _ _ _ _ _ _ _ _ _ _ _ _ _ _ _ _ _ _ _ _ _ _ _ _ _ _ _ _ _ _ _ _ _ _ _ _ _ _ _ _ _ _ _ _ _ _ _ _ _ _ _ _ _ _ _ _ _ _ _ _ _ _ _ _ _ _ _ _ _ _ _ _ _ _ _ _ _ _ _ _ _ _ _ _ _ _ _ _ _ _ _ _ _ _ _ J24 J44 hgd24 HE24 HN24 R1 R24 HWK HBF HSP) ?_
          · intro a9 W9 hsz9 hdf9 hL9 hbs hsl
            obtain ⟨v9, h9, q9⟩ := hsl 44 _ _ rfl rfl
            obtain rfl : v9 = .bool true := q9
            have w0 := slot_getD h9
            clear h9
            refine hKN _ _ ?_
            obtain ⟨T9, df9⟩ := a9
            obtain rfl : df9 = [] := hdf9
            obtain ⟨f, hf, rfl⟩ := spell313 T9 hsz9
            have X9 := fun k v h => (hf k).trans (slot_getD (hbs k v h))
            have x0 := (hf 0).trans w0
            clear hbs hsl hf hsz9 hKN w0
            simp only [X9 1 _ rfl, X9 13 _ rfl, X9 23 _ rfl, X9 24 _ rfl, X9 25 _ rfl, X9 28 _ rfl, X9 29 _ rfl, X9 31 _ rfl, X9 2 _ rfl, X9 3 _ rfl, X9 4 _ rfl, X9 5 _ rfl, X9 6 _ rfl, X9 7 _ rfl, X9 8 _ rfl, X9 9 _ rfl, X9 10 _ rfl, X9 11 _ rfl, X9 12 _ rfl, X9 14 _ rfl, X9 15 _ rfl, X9 16 _ rfl, X9 17 _ rfl, X9 18 _ rfl, X9 19 _ rfl, X9 20 _ rfl, X9 21 _ rfl, X9 22 _ rfl, X9 26 _ rfl, X9 27 _ rfl, X9 30 _ rfl, X9 32 _ rfl, X9 33 _ rfl, X9 34 _ rfl, X9 35 _ rfl, X9 36 _ rfl, X9 37 _ rfl, X9 38 _ rfl, X9 39 _ rfl, X9 40 _ rfl, X9 41 _ rfl, X9 42 _ rfl, X9 43 _ rfl, X9 44 _ rfl, X9 45 _ rfl, X9 46 _ rfl, X9 47 _ rfl, X9 48 _ rfl, X9 49 _ rfl, X9 50 _ rfl, X9 51 _ rfl, X9 52 _ rfl, X9 53 _ rfl, X9 54 _ rfl, X9 55 _ rfl, X9 56 _ rfl, X9 57 _ rfl, X9 58 _ rfl, X9 59 _ rfl, X9 60 _ rfl, X9 61 _ rfl, X9 62 _ rfl, X9 63 _ rfl, X9 64 _ rfl, X9 65 _ rfl, X9 66 _ rfl, X9 67 _ rfl, X9 68 _ rfl, X9 69 _ rfl, X9 70 _ rfl, X9 71 _ rfl, X9 72 _ rfl, X9 73 _ rfl, X9 74 _ rfl, X9 75 _ rfl, X9 76 _ rfl, X9 77 _ rfl, X9 78 _ rfl, X9 79 _ rfl, X9 80 _ rfl, X9 81 _ rfl, X9 82 _ rfl, X9 83 _ rfl, X9 84 _ rfl, X9 85 _ rfl, X9 86 _ rfl, X9 87 _ rfl, X9 88 _ rfl, X9 89 _ rfl, X9 90 _ rfl, X9 91 _ rfl, X9 92 _ rfl, X9 93 _ rfl, X9 94 _ rfl, X9 95 _ rfl, X9 96 _ rfl, X9 97 _ rfl, X9 98 _ rfl, X9 99 _ rfl, X9 100 _ rfl, X9 101 _ rfl, X9 102 _ rfl, X9 103 _ rfl, X9 104 _ rfl, X9 105 _ rfl, X9 106 _ rfl, X9 107 _ rfl, X9 108 _ rfl, X9 109 _ rfl, X9 110 _ rfl, X9 111 _ rfl, X9 112 _ rfl, X9 113 _ rfl, X9 114 _ rfl, X9 115 _ rfl, X9 116 _ rfl, X9 117 _ rfl, X9 118 _ rfl, X9 119 _ rfl, X9 120 _ rfl, X9 121 _ rfl, X9 122 _ rfl, X9 123 _ rfl, X9 124 _ rfl, X9 125 _ rfl, X9 126 _ rfl, X9 127 _ rfl, X9 128 _ rfl, X9 129 _ rfl, X9 130 _ rfl, X9 131 _ rfl, X9 132 _ rfl, X9 133 _ rfl, X9 134 _ rfl, X9 135 _ rfl, X9 136 _ rfl, X9 137 _ rfl, X9 138 _ rfl, X9 139 _ rfl, X9 140 _ rfl, X9 141 _ rfl, X9 142 _ rfl, X9 143 _ rfl, X9 144 _ rfl, X9 145 _ rfl, X9 146 _ rfl, X9 147 _ rfl, X9 148 _ rfl, X9 149 _ rfl, X9 150 _ rfl, X9 151 _ rfl, X9 152 _ rfl, X9 153 _ rfl, X9 154 _ rfl, X9 155 _ rfl, X9 156 _ rfl, X9 157 _ rfl, X9 158 _ rfl, X9 159 _ rfl, X9 160 _ rfl, X9 161 _ rfl, X9 162 _ rfl, X9 163 _ rfl, X9 164 _ rfl, X9 165 _ rfl, X9 166 _ rfl, X9 167 _ rfl, X9 168 _ rfl, X9 169 _ rfl, X9 170 _ rfl, X9 171 _ rfl, X9 172 _ rfl, X9 173 _ rfl, X9 174 _ rfl, X9 175 _ rfl, X9 176 _ rfl, X9 177 _ rfl, X9 178 _ rfl, X9 179 _ rfl, X9 180 _ rfl, X9 181 _ rfl, X9 182 _ rfl, X9 183 _ rfl, X9 184 _ rfl, X9 185 _ rfl, X9 186 _ rfl, X9 187 _ rfl, X9 188 _ rfl, X9 189 _ rfl, X9 190 _ rfl, X9 191 _ rfl, X9 192 _ rfl, X9 193 _ rfl, X9 194 _ rfl, X9 195 _ rfl, X9 196 _ rfl, X9 197 _ rfl, X9 198 _ rfl, X9 199 _ rfl, X9 200 _ rfl, X9 201 _ rfl, X9 202 _ rfl, X9 203 _ rfl, X9 204 _ rfl, X9 205 _ rfl, X9 206 _ rfl, X9 207 _ rfl, X9 208 _ rfl, X9 209 _ rfl, X9 210 _ rfl, X9 211 _ rfl, X9 212 _ rfl, X9 213 _ rfl, X9 214 _ rfl, X9 215 _ rfl, X9 216 _ rfl, X9 217 _ rfl, X9 218 _ rfl, X9 219 _ rfl, X9 220 _ rfl, X9 221 _ rfl, X9 222 _ rfl, X9 223 _ rfl, X9 224 _ rfl, X9 225 _ rfl, X9 226 _ rfl, X9 227 _ rfl, X9 228 _ rfl, X9 229 _ rfl, X9 230 _ rfl, X9 231 _ rfl, X9 232 _ rfl, X9 233 _ rfl, X9 234 _ rfl, X9 235 _ rfl, X9 236 _ rfl, X9 237 _ rfl, X9 238 _ rfl, X9 239 _ rfl, X9 240 _ rfl, X9 241 _ rfl, X9 242 _ rfl, X9 243 _ rfl, X9 244 _ rfl, X9 245 _ rfl, X9 246 _ rfl, X9 247 _ rfl, X9 248 _ rfl, X9 249 _ rfl, X9 250 _ rfl, X9 251 _ rfl, X9 252 _ rfl, X9 253 _ rfl, X9 254 _ rfl, X9 255 _ rfl, X9 256 _ rfl, X9 257 _ rfl, X9 258 _ rfl, X9 259 _ rfl, X9 260 _ rfl, X9 261 _ rfl, X9 262 _ rfl, X9 263 _ rfl, X9 264 _ rfl, X9 265 _ rfl, X9 266 _ rfl, X9 267 _ rfl, X9 268 _ rfl, x0]
            clear x0 X9
            have LF := l0.trans hL9
            clear l0 hL9 R1 R24 HN24 HSP HWK HBF k1 k24
            go_wp2
            go_ret
            exact ⟨rfl, LF⟩
end Go.Proofs.Ytogkkhaepfablaa
