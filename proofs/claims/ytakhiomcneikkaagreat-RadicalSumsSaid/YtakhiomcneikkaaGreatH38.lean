/- Several texts in one: RdEc. -/
import Derived.Test.YtakhiomcneikkaaGreatH36
import Derived.Test.YtakhiomcneikkaaGreatH37
namespace Go.Proofs.YtakhiomcneikkaaGreat
open Go.RowKit
set_option linter.unusedSimpArgs false
set_option linter.unusedVariables false
set_option maxRecDepth 100000
noncomputable def encE (l : List (Int × Int)) (b : Int) : Int := if ckE l = 0 then (if b < 0 ∨ 400 < b then 2 else 0) else 30
def EncIs (l : List (Int × Int)) (b : Int) (u1 v1 u2 v2 : W8) (r : Int) : Prop :=
 (encE l b ≠ 0 ∧ r = encE l b ∧ u1 = W8.zero ∧ v1 = W8.zero ∧ u2 = W8.zero ∧ v2 = W8.zero) ∨
 (encE l b = 0 ∧ ((r = 0 ∧ ShareIs (lowN (sLo l b.toNat) (2 ^ b.toNat)) (lowD (sLo l b.toNat) (2 ^ b.toNat)) u1 v1 0 ∧ ShareIs (lowN (sHi l b.toNat) (2 ^ b.toNat)) (lowD (sHi l b.toNat) (2 ^ b.toNat)) u2 v2 0) ∨
   (r = 6 ∧ u1 = W8.zero ∧ v1 = W8.zero ∧ u2 = W8.zero ∧ v2 = W8.zero ∧ ((∃ u v, ShareIs (lowN (sLo l b.toNat) (2 ^ b.toNat)) (lowD (sLo l b.toNat) (2 ^ b.toNat)) u v 6) ∨ ∃ u v, ShareIs (lowN (sHi l b.toNat) (2 ^ b.toNat)) (lowD (sHi l b.toNat) (2 ^ b.toNat)) u v 6))))
theorem shareIs_two {N D : Int} {u v u' v' : W8} {r r' : Int} (h : ShareIs N D u v r) (h' : ShareIs N D u' v' r') : u = u' ∧ v = v' ∧ r = r' := by
 rcases h with ⟨a1, a2, a3, a4, a5, a6, a7⟩ | ⟨a1, a2, a3, a4⟩
 ·rcases h' with ⟨b1, b2, b3, b4, b5, b6, b7⟩ | ⟨b1, b2, b3, b4⟩
  ·subst a5 a6 a7 b5 b6 b7; exact ⟨rfl, rfl, rfl⟩
  ·exfalso; omega
 ·rcases h' with ⟨b1, b2, b3, b4, b5, b6, b7⟩ | ⟨b1, b2, b3, b4⟩
  ·exfalso; omega
  ·subst a2 a3 a4 b2 b3 b4; exact ⟨rfl, rfl, rfl⟩
theorem encIs_two {l : List (Int × Int)} {b : Int} {u1 v1 u2 v2 u1' v1' u2' v2' : W8} {r r' : Int} (h : EncIs l b u1 v1 u2 v2 r) (h' : EncIs l b u1' v1' u2' v2' r') : u1 = u1' ∧ v1 = v1' ∧ u2 = u2' ∧ v2 = v2' ∧ r = r' := by
 rcases h with ⟨a0, a1, a2, a3, a4, a5⟩ | ⟨a0, a⟩
 ·rcases h' with ⟨b0, b1, b2, b3, b4, b5⟩ | ⟨b0, _⟩
  ·subst a1 a2 a3 a4 a5 b1 b2 b3 b4 b5; exact ⟨rfl, rfl, rfl, rfl, rfl⟩
  ·exact absurd b0 a0
 ·rcases h' with ⟨b0, _⟩ | ⟨b0, b⟩
  ·exact absurd a0 b0
  ·rcases a with ⟨a1, a2, a3⟩ | ⟨a1, a2, a3, a4, a5, a6⟩
   ·rcases b with ⟨b1, b2, b3⟩ | ⟨b1, b2, b3, b4, b5, ⟨u, v, b6⟩ | ⟨u, v, b6⟩⟩
    ·obtain ⟨c1, c2, _⟩ := shareIs_two a2 b2
     obtain ⟨c3, c4, _⟩ := shareIs_two a3 b3
     exact ⟨c1, c2, c3, c4, by rw [a1, b1]⟩
    ·have := (shareIs_two a2 b6).2.2; cases this
    ·have := (shareIs_two a3 b6).2.2; cases this
   ·rcases b with ⟨b1, b2, b3⟩ | ⟨b1, b2, b3, b4, b5, _⟩
    ·rcases a6 with ⟨u, v, a6⟩ | ⟨u, v, a6⟩
     ·have := (shareIs_two b2 a6).2.2; cases this
     ·have := (shareIs_two b3 a6).2.2; cases this
    ·subst a1 a2 a3 a4 a5 b1 b2 b3 b4 b5; exact ⟨rfl, rfl, rfl, rfl, rfl⟩
def EncPost (w : World) (l : List (Int × Int)) (b : Int) (e : Ending) (w' : World) : Prop :=
 ∃ (u1 v1 u2 v2 : W8) (r : Int), e = .returned (.tuple #[.agg #[.int .u64 u1.a0, .int .u64 u1.a1, .int .u64 u1.a2, .int .u64 u1.a3, .int .u64 u1.a4, .int .u64 u1.a5, .int .u64 u1.a6, .int .u64 u1.a7, .int .u64 v1.a0, .int .u64 v1.a1, .int .u64 v1.a2, .int .u64 v1.a3, .int .u64 v1.a4, .int .u64 v1.a5, .int .u64 v1.a6, .int .u64 v1.a7], .agg #[.int .u64 u2.a0, .int .u64 u2.a1, .int .u64 u2.a2, .int .u64 u2.a3, .int .u64 u2.a4, .int .u64 u2.a5, .int .u64 u2.a6, .int .u64 u2.a7, .int .u64 v2.a0, .int .u64 v2.a1, .int .u64 v2.a2, .int .u64 v2.a3, .int .u64 v2.a4, .int .u64 v2.a5, .int .u64 v2.a6, .int .u64 v2.a7], .int .i64 r]) ∧ EncIs l b u1 v1 u2 v2 r ∧ Lat w w'
theorem encPost_early {w w' : World} {l : List (Int × Int)} {b z : Int} (hz : encE l b = z) (h0 : z ≠ 0) (hl : Lat w w') : EncPost w l b (.returned (.tuple #[.agg #[.int .u64 W8.zero.a0, .int .u64 W8.zero.a1, .int .u64 W8.zero.a2, .int .u64 W8.zero.a3, .int .u64 W8.zero.a4, .int .u64 W8.zero.a5, .int .u64 W8.zero.a6, .int .u64 W8.zero.a7, .int .u64 W8.zero.a0, .int .u64 W8.zero.a1, .int .u64 W8.zero.a2, .int .u64 W8.zero.a3, .int .u64 W8.zero.a4, .int .u64 W8.zero.a5, .int .u64 W8.zero.a6, .int .u64 W8.zero.a7], .agg #[.int .u64 W8.zero.a0, .int .u64 W8.zero.a1, .int .u64 W8.zero.a2, .int .u64 W8.zero.a3, .int .u64 W8.zero.a4, .int .u64 W8.zero.a5, .int .u64 W8.zero.a6, .int .u64 W8.zero.a7, .int .u64 W8.zero.a0, .int .u64 W8.zero.a1, .int .u64 W8.zero.a2, .int .u64 W8.zero.a3, .int .u64 W8.zero.a4, .int .u64 W8.zero.a5, .int .u64 W8.zero.a6, .int .u64 W8.zero.a7], .int .i64 z])) w' :=
 ⟨W8.zero, W8.zero, W8.zero, W8.zero, z, rfl, .inl ⟨by rw [hz]; exact h0, hz.symm, rfl, rfl, rfl, rfl⟩, hl⟩
theorem share_pair {W0 : World} {g h : Nat} {u1 v1 u2 v2 : W8} (h1 : W0.heap.size ≤ g) (h2 : W0.heap.size ≤ h) (h3 : g ≠ h) : PairOk Tryz.prog W0 g h 57 #[.int .u64 u1.a0, .int .u64 u1.a1, .int .u64 u1.a2, .int .u64 u1.a3, .int .u64 u1.a4, .int .u64 u1.a5, .int .u64 u1.a6, .int .u64 u1.a7, .int .u64 v1.a0, .int .u64 v1.a1, .int .u64 v1.a2, .int .u64 v1.a3, .int .u64 v1.a4, .int .u64 v1.a5, .int .u64 v1.a6, .int .u64 v1.a7] #[.int .u64 u2.a0, .int .u64 u2.a1, .int .u64 u2.a2, .int .u64 u2.a3, .int .u64 u2.a4, .int .u64 u2.a5, .int .u64 u2.a6, .int .u64 u2.a7, .int .u64 v2.a0, .int .u64 v2.a1, .int .u64 v2.a2, .int .u64 v2.a3, .int .u64 v2.a4, .int .u64 v2.a5, .int .u64 v2.a6, .int .u64 v2.a7] :=
 ⟨h1, h2, h3, ⟨_, Tryz.underlying57, rfl⟩, shareInfo, shareInfo, by simp [Value.oneCell'], by simp [Value.oneCell']⟩
theorem enc_res {W : World} {g h : Nat} {u1 v1 u2 v2 : W8} {r : Int} {T : Array Value} (h4 : T[4]? = some (.pointer (some ⟨g, 0, none⟩))) (h5 : T[5]? = some (.pointer (some ⟨h, 0, none⟩))) (h6 : T[6]? = some (.int .i64 r))
  (k4 : Blk W g 57 #[.int .u64 u1.a0, .int .u64 u1.a1, .int .u64 u1.a2, .int .u64 u1.a3, .int .u64 u1.a4, .int .u64 u1.a5, .int .u64 u1.a6, .int .u64 u1.a7, .int .u64 v1.a0, .int .u64 v1.a1, .int .u64 v1.a2, .int .u64 v1.a3, .int .u64 v1.a4, .int .u64 v1.a5, .int .u64 v1.a6, .int .u64 v1.a7]) (k5 : Blk W h 57 #[.int .u64 u2.a0, .int .u64 u2.a1, .int .u64 u2.a2, .int .u64 u2.a3, .int .u64 u2.a4, .int .u64 u2.a5, .int .u64 u2.a6, .int .u64 u2.a7, .int .u64 v2.a0, .int .u64 v2.a1, .int .u64 v2.a2, .int .u64 v2.a3, .int .u64 v2.a4, .int .u64 v2.a5, .int .u64 v2.a6, .int .u64 v2.a7]) : (results Tryz.f24 T).run Tryz.prog W = .ok (.tuple #[.agg #[.int .u64 u1.a0, .int .u64 u1.a1, .int .u64 u1.a2, .int .u64 u1.a3, .int .u64 u1.a4, .int .u64 u1.a5, .int .u64 u1.a6, .int .u64 u1.a7, .int .u64 v1.a0, .int .u64 v1.a1, .int .u64 v1.a2, .int .u64 v1.a3, .int .u64 v1.a4, .int .u64 v1.a5, .int .u64 v1.a6, .int .u64 v1.a7], .agg #[.int .u64 u2.a0, .int .u64 u2.a1, .int .u64 u2.a2, .int .u64 u2.a3, .int .u64 u2.a4, .int .u64 u2.a5, .int .u64 u2.a6, .int .u64 u2.a7, .int .u64 v2.a0, .int .u64 v2.a1, .int .u64 v2.a2, .int .u64 v2.a3, .int .u64 v2.a4, .int .u64 v2.a5, .int .u64 v2.a6, .int .u64 v2.a7], .int .i64 r]) W := by
 have a4 := run_loadVar_mid (P := Tryz.prog) W g 0 57 [.int .u64 u1.a0, .int .u64 u1.a1, .int .u64 u1.a2, .int .u64 u1.a3, .int .u64 u1.a4, .int .u64 u1.a5, .int .u64 u1.a6, .int .u64 u1.a7, .int .u64 v1.a0, .int .u64 v1.a1, .int .u64 v1.a2, .int .u64 v1.a3, .int .u64 v1.a4, .int .u64 v1.a5, .int .u64 v1.a6, .int .u64 v1.a7] _ k4.rangeAll Tryz.underlying57 rfl shareInfo
 have a5 := run_loadVar_mid (P := Tryz.prog) W h 0 57 [.int .u64 u2.a0, .int .u64 u2.a1, .int .u64 u2.a2, .int .u64 u2.a3, .int .u64 u2.a4, .int .u64 u2.a5, .int .u64 u2.a6, .int .u64 u2.a7, .int .u64 v2.a0, .int .u64 v2.a1, .int .u64 v2.a2, .int .u64 v2.a3, .int .u64 v2.a4, .int .u64 v2.a5, .int .u64 v2.a6, .int .u64 v2.a7] _ k5.rangeAll Tryz.underlying57 rfl shareInfo
 unfold results
 rw [Tryz.results24]
 skip
 simp [h4, h5, h6, asAddr, a4, a5, Sem.run_bind, Sem.run_pure, Result.andThen_ok]
theorem spell61 (T : Array Value) (h : T.size = 61) : ∃ f : Nat → Value, (∀ k, f k = T.getD k undef) ∧ T = #[f 0, f 1, f 2, f 3, f 4, f 5, f 6, f 7, f 8, f 9, f 10, f 11, f 12, f 13, f 14, f 15, f 16, f 17, f 18, f 19, f 20, f 21, f 22, f 23, f 24, f 25, f 26, f 27, f 28, f 29, f 30, f 31, f 32, f 33, f 34, f 35, f 36, f 37, f 38, f 39, f 40, f 41, f 42, f 43, f 44, f 45, f 46, f 47, f 48, f 49, f 50, f 51, f 52, f 53, f 54, f 55, f 56, f 57, f 58, f 59, f 60] := ⟨fun k => T.getD k undef, fun _ => rfl, (spell 61 T h).trans (by kernel_rfl)⟩
noncomputable def ec3_rows (g4 g5 : Nat) (X Y : Array Value) (e : Int) : List SRow := [
 ⟨.load 57 (.tmp 4), some 15, none, [], fun v _ => v = .agg X⟩,
 ⟨.load 57 (.tmp 5), some 16, none, [], fun v _ => v = .agg Y⟩,
 ⟨.move (.tmp 7), some 17, none, [], fun v _ => v = .int .i64 e⟩,
 ⟨.store 57 (.tmp 4) (.tmp 15), none, none, [0, 0], fun _ _ => True⟩,
 ⟨.store 57 (.tmp 5) (.tmp 16), none, none, [1, 3, 0, 1, 3], fun _ _ => True⟩,
 ⟨.assign (.tmp 17), some 6, none, [2, 4, 0, 1, 2, 3, 4], fun v _ => v = .int .i64 e⟩]
noncomputable def ec3_base (g4 g5 : Nat) (X Y : Array Value) (e : Int) (v0 v1 v2 v3 v8 v9 v10 v11 v12 v13 v14 v18 v19 v20 v21 v22 v23 v24 v25 v26 v27 v28 v29 v30 v31 v32 v33 v34 v35 v36 v37 v38 v39 v40 v41 v42 v43 v44 v45 v46 v47 v48 v49 v50 v51 v52 v53 v54 v55 v56 v57 v58 v59 v60 : Value) : List (Nat × Value) := [(4, .pointer (some ⟨g4, 0, none⟩)), (5, .pointer (some ⟨g5, 0, none⟩)), (7, .int .i64 e), (0, v0), (1, v1), (2, v2), (3, v3), (8, v8), (9, v9), (10, v10), (11, v11), (12, v12), (13, v13), (14, v14), (18, v18), (19, v19), (20, v20), (21, v21), (22, v22), (23, v23), (24, v24), (25, v25), (26, v26), (27, v27), (28, v28), (29, v29), (30, v30), (31, v31), (32, v32), (33, v33), (34, v34), (35, v35), (36, v36), (37, v37), (38, v38), (39, v39), (40, v40), (41, v41), (42, v42), (43, v43), (44, v44), (45, v45), (46, v46), (47, v47), (48, v48), (49, v49), (50, v50), (51, v51), (52, v52), (53, v53), (54, v54), (55, v55), (56, v56), (57, v57), (58, v58), (59, v59), (60, v60)]
set_option maxHeartbeats 4000000 in
theorem ec3_steps (V : World) (g4 g5 : Nat) (X Y : Array Value) (e : Int) (v0 v1 v2 v3 v8 v9 v10 v11 v12 v13 v14 v18 v19 v20 v21 v22 v23 v24 v25 v26 v27 v28 v29 v30 v31 v32 v33 v34 v35 v36 v37 v38 v39 v40 v41 v42 v43 v44 v45 v46 v47 v48 v49 v50 v51 v52 v53 v54 v55 v56 v57 v58 v59 v60 : Value) (hok : PairOk Tryz.prog V g4 g5 57 X Y) :
  AllStepsH Tryz.prog (ec3_rows g4 g5 X Y e) (ec3_base g4 g5 X Y e v0 v1 v2 v3 v8 v9 v10 v11 v12 v13 v14 v18 v19 v20 v21 v22 v23 v24 v25 v26 v27 v28 v29 v30 v31 v32 v33 v34 v35 v36 v37 v38 v39 v40 v41 v42 v43 v44 v45 v46 v47 v48 v49 v50 v51 v52 v53 v54 v55 v56 v57 v58 v59 v60) 61 [[], [], [], [0, 0], [1, 3, 0, 1, 3], [2, 4, 0, 1, 2, 3, 4]] (PairG V g4 g5 57 X Y) 0 (ec3_rows g4 g5 X Y e) := by
 refine pg_load 4 rfl (.inl ⟨rfl, rfl⟩) hok ?_
 refine pg_load 5 rfl (.inr ⟨rfl, rfl⟩) hok ?_
 refine pg_val (fun a w hb hd o ho => by have e1 := hb 7 _ rfl; exact yv_move (S := fun _ => True) e1 o w ho trivial) ?_
 refine pg_store 4 15 0 rfl (.inl ⟨rfl, rfl⟩) (by simp) rfl rfl (fun _ _ h => h) hok ?_
 refine pg_store 5 16 1 rfl (.inr ⟨rfl, rfl⟩) (by simp) rfl rfl (fun _ _ h => h) hok ?_
 refine pg_val (fun a w hb hd o ho => by obtain ⟨v1, s1, q1⟩ := hd 2 _ _ (by simp) rfl rfl; have e1 := s1.ev; subst q1; exact yv_assignS (S := fun _ => True) e1 o w ho trivial) ?_
 exact AllStepsH.none
noncomputable def ec5_rows (g4 g5 : Nat) (X Y : Array Value)  : List SRow := [
 ⟨.load 57 (.tmp 4), some 24, none, [], fun v _ => v = .agg X⟩,
 ⟨.load 57 (.tmp 5), some 25, none, [], fun v _ => v = .agg Y⟩,
 ⟨.store 57 (.tmp 4) (.tmp 24), none, none, [0, 0], fun _ _ => True⟩,
 ⟨.store 57 (.tmp 5) (.tmp 25), none, none, [1, 2, 0, 1, 2], fun _ _ => True⟩,
 ⟨.assign (.const (.int .i64 2)), some 6, none, [3, 0, 1, 2, 3], fun v _ => v = .int .i64 2⟩]
noncomputable def ec5_base (g4 g5 : Nat) (X Y : Array Value)  (v0 v1 v2 v3 v7 v8 v9 v10 v11 v12 v13 v14 v15 v16 v17 v18 v19 v20 v21 v22 v23 v26 v27 v28 v29 v30 v31 v32 v33 v34 v35 v36 v37 v38 v39 v40 v41 v42 v43 v44 v45 v46 v47 v48 v49 v50 v51 v52 v53 v54 v55 v56 v57 v58 v59 v60 : Value) : List (Nat × Value) := [(4, .pointer (some ⟨g4, 0, none⟩)), (5, .pointer (some ⟨g5, 0, none⟩)), (0, v0), (1, v1), (2, v2), (3, v3), (7, v7), (8, v8), (9, v9), (10, v10), (11, v11), (12, v12), (13, v13), (14, v14), (15, v15), (16, v16), (17, v17), (18, v18), (19, v19), (20, v20), (21, v21), (22, v22), (23, v23), (26, v26), (27, v27), (28, v28), (29, v29), (30, v30), (31, v31), (32, v32), (33, v33), (34, v34), (35, v35), (36, v36), (37, v37), (38, v38), (39, v39), (40, v40), (41, v41), (42, v42), (43, v43), (44, v44), (45, v45), (46, v46), (47, v47), (48, v48), (49, v49), (50, v50), (51, v51), (52, v52), (53, v53), (54, v54), (55, v55), (56, v56), (57, v57), (58, v58), (59, v59), (60, v60)]
set_option maxHeartbeats 4000000 in
theorem ec5_steps (V : World) (g4 g5 : Nat) (X Y : Array Value)  (v0 v1 v2 v3 v7 v8 v9 v10 v11 v12 v13 v14 v15 v16 v17 v18 v19 v20 v21 v22 v23 v26 v27 v28 v29 v30 v31 v32 v33 v34 v35 v36 v37 v38 v39 v40 v41 v42 v43 v44 v45 v46 v47 v48 v49 v50 v51 v52 v53 v54 v55 v56 v57 v58 v59 v60 : Value) (hok : PairOk Tryz.prog V g4 g5 57 X Y) :
  AllStepsH Tryz.prog (ec5_rows g4 g5 X Y ) (ec5_base g4 g5 X Y  v0 v1 v2 v3 v7 v8 v9 v10 v11 v12 v13 v14 v15 v16 v17 v18 v19 v20 v21 v22 v23 v26 v27 v28 v29 v30 v31 v32 v33 v34 v35 v36 v37 v38 v39 v40 v41 v42 v43 v44 v45 v46 v47 v48 v49 v50 v51 v52 v53 v54 v55 v56 v57 v58 v59 v60) 61 [[], [], [0, 0], [1, 2, 0, 1, 2], [3, 0, 1, 2, 3]] (PairG V g4 g5 57 X Y) 0 (ec5_rows g4 g5 X Y ) := by
 refine pg_load 4 rfl (.inl ⟨rfl, rfl⟩) hok ?_
 refine pg_load 5 rfl (.inr ⟨rfl, rfl⟩) hok ?_
 refine pg_store 4 24 0 rfl (.inl ⟨rfl, rfl⟩) (by simp) rfl rfl (fun _ _ h => h) hok ?_
 refine pg_store 5 25 1 rfl (.inr ⟨rfl, rfl⟩) (by simp) rfl rfl (fun _ _ h => h) hok ?_
 refine pg_val (fun a w hb hd o ho => by have e1 : a.eval (.const (.int .i64 2)) = .int .i64 2 := rfl; exact yv_assignS (S := fun _ => True) e1 o w ho trivial) ?_
 exact AllStepsH.none
noncomputable def ec14_rows (g4 g5 : Nat) (X Y : Array Value)  : List SRow := [
 ⟨.load 57 (.tmp 4), some 59, none, [], fun v _ => v = .agg X⟩,
 ⟨.load 57 (.tmp 5), some 60, none, [], fun v _ => v = .agg Y⟩,
 ⟨.store 57 (.tmp 4) (.tmp 59), none, none, [0, 0], fun _ _ => True⟩,
 ⟨.store 57 (.tmp 5) (.tmp 60), none, none, [1, 2, 0, 1, 2], fun _ _ => True⟩,
 ⟨.assign (.const (.int .i64 0)), some 6, none, [3, 0, 1, 2, 3], fun v _ => v = .int .i64 0⟩]
noncomputable def ec14_base (g4 g5 : Nat) (X Y : Array Value)  (v0 v1 v2 v3 v7 v8 v9 v10 v11 v12 v13 v14 v15 v16 v17 v18 v19 v20 v21 v22 v23 v24 v25 v26 v27 v28 v29 v30 v31 v32 v33 v34 v35 v36 v37 v38 v39 v40 v41 v42 v43 v44 v45 v46 v47 v48 v49 v50 v51 v52 v53 v54 v55 v56 v57 v58 : Value) : List (Nat × Value) := [(4, .pointer (some ⟨g4, 0, none⟩)), (5, .pointer (some ⟨g5, 0, none⟩)), (0, v0), (1, v1), (2, v2), (3, v3), (7, v7), (8, v8), (9, v9), (10, v10), (11, v11), (12, v12), (13, v13), (14, v14), (15, v15), (16, v16), (17, v17), (18, v18), (19, v19), (20, v20), (21, v21), (22, v22), (23, v23), (24, v24), (25, v25), (26, v26), (27, v27), (28, v28), (29, v29), (30, v30), (31, v31), (32, v32), (33, v33), (34, v34), (35, v35), (36, v36), (37, v37), (38, v38), (39, v39), (40, v40), (41, v41), (42, v42), (43, v43), (44, v44), (45, v45), (46, v46), (47, v47), (48, v48), (49, v49), (50, v50), (51, v51), (52, v52), (53, v53), (54, v54), (55, v55), (56, v56), (57, v57), (58, v58)]
set_option maxHeartbeats 4000000 in
theorem ec14_steps (V : World) (g4 g5 : Nat) (X Y : Array Value)  (v0 v1 v2 v3 v7 v8 v9 v10 v11 v12 v13 v14 v15 v16 v17 v18 v19 v20 v21 v22 v23 v24 v25 v26 v27 v28 v29 v30 v31 v32 v33 v34 v35 v36 v37 v38 v39 v40 v41 v42 v43 v44 v45 v46 v47 v48 v49 v50 v51 v52 v53 v54 v55 v56 v57 v58 : Value) (hok : PairOk Tryz.prog V g4 g5 57 X Y) :
  AllStepsH Tryz.prog (ec14_rows g4 g5 X Y ) (ec14_base g4 g5 X Y  v0 v1 v2 v3 v7 v8 v9 v10 v11 v12 v13 v14 v15 v16 v17 v18 v19 v20 v21 v22 v23 v24 v25 v26 v27 v28 v29 v30 v31 v32 v33 v34 v35 v36 v37 v38 v39 v40 v41 v42 v43 v44 v45 v46 v47 v48 v49 v50 v51 v52 v53 v54 v55 v56 v57 v58) 61 [[], [], [0, 0], [1, 2, 0, 1, 2], [3, 0, 1, 2, 3]] (PairG V g4 g5 57 X Y) 0 (ec14_rows g4 g5 X Y ) := by
 refine pg_load 4 rfl (.inl ⟨rfl, rfl⟩) hok ?_
 refine pg_load 5 rfl (.inr ⟨rfl, rfl⟩) hok ?_
 refine pg_store 4 59 0 rfl (.inl ⟨rfl, rfl⟩) (by simp) rfl rfl (fun _ _ h => h) hok ?_
 refine pg_store 5 60 1 rfl (.inr ⟨rfl, rfl⟩) (by simp) rfl rfl (fun _ _ h => h) hok ?_
 refine pg_val (fun a w hb hd o ho => by have e1 : a.eval (.const (.int .i64 0)) = .int .i64 0 := rfl; exact yv_assignS (S := fun _ => True) e1 o w ho trivial) ?_
 exact AllStepsH.none
set_option maxHeartbeats 8000000 in
theorem enc_bad (A : Option Addr) (n c : Nat) (l : List (Int × Int)) (b : Int) (w : World) (hs : RowM w A 2 n (tRows l)) (hn : n ≤ 1000000) (hv : ¬ ValidR l) :
  Calls Tryz.prog 24 #[.slice A n c, .int .i64 b] w (EncPost w l b) := by
 have HS := Lib.hid hs
 have HE : Hid (encE l b = 30) := by show _ = _; unfold encE; rw [ckE_no hv]; rfl
 have HC := Lib.hid (fun w' (h : Lat w w') => by have := check_any A n c l w' (hs.later h) hn; rwa [ckE_no hv] at this)
 clear hs hv
 go_enter Tryz.func24, Tryz.ntmps24
 go_upto_region 1 with (fail)
 refine name2 (Q := fun W => Code.wp _ _ _ _ W) ?_
 intro W hl hsz k4 k5
 obtain ⟨g5, hg5⟩ : ∃ z, w.heap.size + 1 = z := ⟨_, rfl⟩
 obtain ⟨g4, hg4⟩ : ∃ z, w.heap.size = z := ⟨_, rfl⟩
 have HG : Hid (g4 < g5 ∧ w.heap.size = g4) := by show g4 < g5 ∧ w.heap.size = g4; omega
 rw [hg5] at k5 ⊢
 rw [hg4] at k4 ⊢
 clear hg5 hg4 hsz
 go_wp2_with fail
 refine (HC.out W hl).mono ?_
 rintro e w1 ⟨rfl, l1⟩
 replace k4 := k4.later l1
 replace k5 := k5.later l1
 have L1 := Lib.hid (hl.trans l1)
 clear hl l1 HC
 have HOK := Lib.hid (share_pair (W0 := w) (g := g4) (h := g5) (u1 := W8.zero) (v1 := W8.zero) (u2 := W8.zero) (v2 := W8.zero) (by have := HG.out; omega) (by have := HG.out; omega) (by have := HG.out; omega))
 go_upto_region 3 with (fail)
 rename_i KN hKN
 refine wp_region_ghost (ec3_rows g4 g5 #[.int .u64 W8.zero.a0, .int .u64 W8.zero.a1, .int .u64 W8.zero.a2, .int .u64 W8.zero.a3, .int .u64 W8.zero.a4, .int .u64 W8.zero.a5, .int .u64 W8.zero.a6, .int .u64 W8.zero.a7, .int .u64 W8.zero.a0, .int .u64 W8.zero.a1, .int .u64 W8.zero.a2, .int .u64 W8.zero.a3, .int .u64 W8.zero.a4, .int .u64 W8.zero.a5, .int .u64 W8.zero.a6, .int .u64 W8.zero.a7] #[.int .u64 W8.zero.a0, .int .u64 W8.zero.a1, .int .u64 W8.zero.a2, .int .u64 W8.zero.a3, .int .u64 W8.zero.a4, .int .u64 W8.zero.a5, .int .u64 W8.zero.a6, .int .u64 W8.zero.a7, .int .u64 W8.zero.a0, .int .u64 W8.zero.a1, .int .u64 W8.zero.a2, .int .u64 W8.zero.a3, .int .u64 W8.zero.a4, .int .u64 W8.zero.a5, .int .u64 W8.zero.a6, .int .u64 W8.zero.a7] 30) (ec3_base g4 g5 #[.int .u64 W8.zero.a0, .int .u64 W8.zero.a1, .int .u64 W8.zero.a2, .int .u64 W8.zero.a3, .int .u64 W8.zero.a4, .int .u64 W8.zero.a5, .int .u64 W8.zero.a6, .int .u64 W8.zero.a7, .int .u64 W8.zero.a0, .int .u64 W8.zero.a1, .int .u64 W8.zero.a2, .int .u64 W8.zero.a3, .int .u64 W8.zero.a4, .int .u64 W8.zero.a5, .int .u64 W8.zero.a6, .int .u64 W8.zero.a7] #[.int .u64 W8.zero.a0, .int .u64 W8.zero.a1, .int .u64 W8.zero.a2, .int .u64 W8.zero.a3, .int .u64 W8.zero.a4, .int .u64 W8.zero.a5, .int .u64 W8.zero.a6, .int .u64 W8.zero.a7, .int .u64 W8.zero.a0, .int .u64 W8.zero.a1, .int .u64 W8.zero.a2, .int .u64 W8.zero.a3, .int .u64 W8.zero.a4, .int .u64 W8.zero.a5, .int .u64 W8.zero.a6, .int .u64 W8.zero.a7] 30 _ _ _ _ _ _ _ _ _ _ _ _ _ _ _ _ _ _ _ _ _ _ _ _ _ _ _ _ _ _ _ _ _ _ _ _ _ _ _ _ _ _ _ _ _ _ _ _ _ _ _ _ _ _) 61 6 [[], [], [], [0, 0], [1, 3, 0, 1, 3], [2, 4, 0, 1, 2, 3, 4]] (PairG _ _ _ _ _ _) (by kernel_rfl) (by kernel_rfl) (by kernel_rfl) (by kernel_rfl) (by kernel_rfl) (by kernel_rfl) (by rfl) rfl (base_of (by repeat (first | exact base_nil _ | refine base_consL rfl ?_))) ⟨⟨k4.later (Lat.drew _), k5.later (Lat.drew _)⟩, L1.out.trans (Lat.drew _)⟩ (ec3_steps w g4 g5 #[.int .u64 W8.zero.a0, .int .u64 W8.zero.a1, .int .u64 W8.zero.a2, .int .u64 W8.zero.a3, .int .u64 W8.zero.a4, .int .u64 W8.zero.a5, .int .u64 W8.zero.a6, .int .u64 W8.zero.a7, .int .u64 W8.zero.a0, .int .u64 W8.zero.a1, .int .u64 W8.zero.a2, .int .u64 W8.zero.a3, .int .u64 W8.zero.a4, .int .u64 W8.zero.a5, .int .u64 W8.zero.a6, .int .u64 W8.zero.a7] #[.int .u64 W8.zero.a0, .int .u64 W8.zero.a1, .int .u64 W8.zero.a2, .int .u64 W8.zero.a3, .int .u64 W8.zero.a4, .int .u64 W8.zero.a5, .int .u64 W8.zero.a6, .int .u64 W8.zero.a7, .int .u64 W8.zero.a0, .int .u64 W8.zero.a1, .int .u64 W8.zero.a2, .int .u64 W8.zero.a3, .int .u64 W8.zero.a4, .int .u64 W8.zero.a5, .int .u64 W8.zero.a6, .int .u64 W8.zero.a7] 30 _ _ _ _ _ _ _ _ _ _ _ _ _ _ _ _ _ _ _ _ _ _ _ _ _ _ _ _ _ _ _ _ _ _ _ _ _ _ _ _ _ _ _ _ _ _ _ _ _ _ _ _ _ _ (HOK.out)) ?_
 intro m9 a9 W9 hall9 hsz9 hdf9 hG9 hbs hsl
 obtain ⟨v9, h9, q9⟩ := hsl 5 _ _ rfl rfl
 obtain rfl := q9
 have w6 := slot_getD h9
 clear h9
 refine hKN _ _ ?_
 obtain ⟨T9, df9⟩ := a9
 obtain rfl : df9 = [] := hdf9
 obtain ⟨f, hf, rfl⟩ := spell61 T9 hsz9
 have X9 := fun k v h => (hf k).trans (slot_getD (hbs k v h))
 have x6 := (hf 6).trans w6
 clear hbs hsl hf hsz9 hKN w6
 simp only [X9 4 _ rfl, X9 5 _ rfl, X9 7 _ rfl, X9 0 _ rfl, X9 1 _ rfl, X9 2 _ rfl, X9 3 _ rfl, X9 8 _ rfl, X9 9 _ rfl, X9 10 _ rfl, X9 11 _ rfl, X9 12 _ rfl, X9 13 _ rfl, X9 14 _ rfl, X9 18 _ rfl, X9 19 _ rfl, X9 20 _ rfl, X9 21 _ rfl, X9 22 _ rfl, X9 23 _ rfl, X9 24 _ rfl, X9 25 _ rfl, X9 26 _ rfl, X9 27 _ rfl, X9 28 _ rfl, X9 29 _ rfl, X9 30 _ rfl, X9 31 _ rfl, X9 32 _ rfl, X9 33 _ rfl, X9 34 _ rfl, X9 35 _ rfl, X9 36 _ rfl, X9 37 _ rfl, X9 38 _ rfl, X9 39 _ rfl, X9 40 _ rfl, X9 41 _ rfl, X9 42 _ rfl, X9 43 _ rfl, X9 44 _ rfl, X9 45 _ rfl, X9 46 _ rfl, X9 47 _ rfl, X9 48 _ rfl, X9 49 _ rfl, X9 50 _ rfl, X9 51 _ rfl, X9 52 _ rfl, X9 53 _ rfl, X9 54 _ rfl, X9 55 _ rfl, X9 56 _ rfl, X9 57 _ rfl, X9 58 _ rfl, X9 59 _ rfl, X9 60 _ rfl, x6]
 clear X9 x6
 obtain ⟨⟨j4, j5⟩, l9⟩ := hG9
 have HL := Lib.hid l9
 have J4 := Lib.hid j4
 have J5 := Lib.hid j5
 clear l9 j4 j5 k4 k5 HOK L1
 go_wp2
 refine bodyPost_ret (v := .tuple #[.agg #[.int .u64 W8.zero.a0, .int .u64 W8.zero.a1, .int .u64 W8.zero.a2, .int .u64 W8.zero.a3, .int .u64 W8.zero.a4, .int .u64 W8.zero.a5, .int .u64 W8.zero.a6, .int .u64 W8.zero.a7, .int .u64 W8.zero.a0, .int .u64 W8.zero.a1, .int .u64 W8.zero.a2, .int .u64 W8.zero.a3, .int .u64 W8.zero.a4, .int .u64 W8.zero.a5, .int .u64 W8.zero.a6, .int .u64 W8.zero.a7], .agg #[.int .u64 W8.zero.a0, .int .u64 W8.zero.a1, .int .u64 W8.zero.a2, .int .u64 W8.zero.a3, .int .u64 W8.zero.a4, .int .u64 W8.zero.a5, .int .u64 W8.zero.a6, .int .u64 W8.zero.a7, .int .u64 W8.zero.a0, .int .u64 W8.zero.a1, .int .u64 W8.zero.a2, .int .u64 W8.zero.a3, .int .u64 W8.zero.a4, .int .u64 W8.zero.a5, .int .u64 W8.zero.a6, .int .u64 W8.zero.a7], .int .i64 30]) (enc_res rfl rfl rfl J4.out J5.out) rfl ?_
 exact encPost_early HE.out (by decide) HL.out
set_option maxHeartbeats 8000000 in
theorem enc_arg (A : Option Addr) (n c : Nat) (l : List (Int × Int)) (b : Int) (w : World) (hs : RowM w A 2 n (tRows l)) (hn : n ≤ 1000000) (hv : ValidR l) (hb : b < 0 ∨ 400 < b) :
  Calls Tryz.prog 24 #[.slice A n c, .int .i64 b] w (EncPost w l b) := by
 have HS := Lib.hid hs
 have HE : Hid (encE l b = 2) := by show _ = _; unfold encE; rw [ckE_yes hv, if_pos rfl, if_pos hb]
 have HC := Lib.hid (fun w' (h : Lat w w') => by have := check_any A n c l w' (hs.later h) hn; rwa [ckE_yes hv] at this)
 clear hs hv
 go_enter Tryz.func24, Tryz.ntmps24
 go_upto_region 1 with (fail)
 refine name2 (Q := fun W => Code.wp _ _ _ _ W) ?_
 intro W hl hsz k4 k5
 obtain ⟨g5, hg5⟩ : ∃ z, w.heap.size + 1 = z := ⟨_, rfl⟩
 obtain ⟨g4, hg4⟩ : ∃ z, w.heap.size = z := ⟨_, rfl⟩
 have HG : Hid (g4 < g5 ∧ w.heap.size = g4) := by show g4 < g5 ∧ w.heap.size = g4; omega
 rw [hg5] at k5 ⊢
 rw [hg4] at k4 ⊢
 clear hg5 hg4 hsz
 go_wp2_with fail
 refine (HC.out W hl).mono ?_
 rintro e w1 ⟨rfl, l1⟩
 replace k4 := k4.later l1
 replace k5 := k5.later l1
 have L1 := Lib.hid (hl.trans l1)
 clear hl l1 HC
 have HOK := Lib.hid (share_pair (W0 := w) (g := g4) (h := g5) (u1 := W8.zero) (v1 := W8.zero) (u2 := W8.zero) (v2 := W8.zero) (by have := HG.out; omega) (by have := HG.out; omega) (by have := HG.out; omega))
 rcases hb with hb | hb
 ·go_upto_region 5 with (fail)
  rename_i KN hKN
  refine wp_region_ghost (ec5_rows g4 g5 #[.int .u64 W8.zero.a0, .int .u64 W8.zero.a1, .int .u64 W8.zero.a2, .int .u64 W8.zero.a3, .int .u64 W8.zero.a4, .int .u64 W8.zero.a5, .int .u64 W8.zero.a6, .int .u64 W8.zero.a7, .int .u64 W8.zero.a0, .int .u64 W8.zero.a1, .int .u64 W8.zero.a2, .int .u64 W8.zero.a3, .int .u64 W8.zero.a4, .int .u64 W8.zero.a5, .int .u64 W8.zero.a6, .int .u64 W8.zero.a7] #[.int .u64 W8.zero.a0, .int .u64 W8.zero.a1, .int .u64 W8.zero.a2, .int .u64 W8.zero.a3, .int .u64 W8.zero.a4, .int .u64 W8.zero.a5, .int .u64 W8.zero.a6, .int .u64 W8.zero.a7, .int .u64 W8.zero.a0, .int .u64 W8.zero.a1, .int .u64 W8.zero.a2, .int .u64 W8.zero.a3, .int .u64 W8.zero.a4, .int .u64 W8.zero.a5, .int .u64 W8.zero.a6, .int .u64 W8.zero.a7]) (ec5_base g4 g5 #[.int .u64 W8.zero.a0, .int .u64 W8.zero.a1, .int .u64 W8.zero.a2, .int .u64 W8.zero.a3, .int .u64 W8.zero.a4, .int .u64 W8.zero.a5, .int .u64 W8.zero.a6, .int .u64 W8.zero.a7, .int .u64 W8.zero.a0, .int .u64 W8.zero.a1, .int .u64 W8.zero.a2, .int .u64 W8.zero.a3, .int .u64 W8.zero.a4, .int .u64 W8.zero.a5, .int .u64 W8.zero.a6, .int .u64 W8.zero.a7] #[.int .u64 W8.zero.a0, .int .u64 W8.zero.a1, .int .u64 W8.zero.a2, .int .u64 W8.zero.a3, .int .u64 W8.zero.a4, .int .u64 W8.zero.a5, .int .u64 W8.zero.a6, .int .u64 W8.zero.a7, .int .u64 W8.zero.a0, .int .u64 W8.zero.a1, .int .u64 W8.zero.a2, .int .u64 W8.zero.a3, .int .u64 W8.zero.a4, .int .u64 W8.zero.a5, .int .u64 W8.zero.a6, .int .u64 W8.zero.a7] _ _ _ _ _ _ _ _ _ _ _ _ _ _ _ _ _ _ _ _ _ _ _ _ _ _ _ _ _ _ _ _ _ _ _ _ _ _ _ _ _ _ _ _ _ _ _ _ _ _ _ _ _ _ _ _) 61 5 [[], [], [0, 0], [1, 2, 0, 1, 2], [3, 0, 1, 2, 3]] (PairG _ _ _ _ _ _) (by kernel_rfl) (by kernel_rfl) (by kernel_rfl) (by kernel_rfl) (by kernel_rfl) (by kernel_rfl) (by rfl) rfl (base_of (by repeat (first | exact base_nil _ | refine base_consL rfl ?_))) ⟨⟨k4.later (Lat.drew _), k5.later (Lat.drew _)⟩, L1.out.trans (Lat.drew _)⟩ (ec5_steps w g4 g5 #[.int .u64 W8.zero.a0, .int .u64 W8.zero.a1, .int .u64 W8.zero.a2, .int .u64 W8.zero.a3, .int .u64 W8.zero.a4, .int .u64 W8.zero.a5, .int .u64 W8.zero.a6, .int .u64 W8.zero.a7, .int .u64 W8.zero.a0, .int .u64 W8.zero.a1, .int .u64 W8.zero.a2, .int .u64 W8.zero.a3, .int .u64 W8.zero.a4, .int .u64 W8.zero.a5, .int .u64 W8.zero.a6, .int .u64 W8.zero.a7] #[.int .u64 W8.zero.a0, .int .u64 W8.zero.a1, .int .u64 W8.zero.a2, .int .u64 W8.zero.a3, .int .u64 W8.zero.a4, .int .u64 W8.zero.a5, .int .u64 W8.zero.a6, .int .u64 W8.zero.a7, .int .u64 W8.zero.a0, .int .u64 W8.zero.a1, .int .u64 W8.zero.a2, .int .u64 W8.zero.a3, .int .u64 W8.zero.a4, .int .u64 W8.zero.a5, .int .u64 W8.zero.a6, .int .u64 W8.zero.a7] _ _ _ _ _ _ _ _ _ _ _ _ _ _ _ _ _ _ _ _ _ _ _ _ _ _ _ _ _ _ _ _ _ _ _ _ _ _ _ _ _ _ _ _ _ _ _ _ _ _ _ _ _ _ _ _ (HOK.out)) ?_
  intro m9 a9 W9 hall9 hsz9 hdf9 hG9 hbs hsl
  obtain ⟨v9, h9, q9⟩ := hsl 4 _ _ rfl rfl
  obtain rfl := q9
  have w6 := slot_getD h9
  clear h9
  refine hKN _ _ ?_
  obtain ⟨T9, df9⟩ := a9
  obtain rfl : df9 = [] := hdf9
  obtain ⟨f, hf, rfl⟩ := spell61 T9 hsz9
  have X9 := fun k v h => (hf k).trans (slot_getD (hbs k v h))
  have x6 := (hf 6).trans w6
  clear hbs hsl hf hsz9 hKN w6
  simp only [X9 4 _ rfl, X9 5 _ rfl, X9 0 _ rfl, X9 1 _ rfl, X9 2 _ rfl, X9 3 _ rfl, X9 7 _ rfl, X9 8 _ rfl, X9 9 _ rfl, X9 10 _ rfl, X9 11 _ rfl, X9 12 _ rfl, X9 13 _ rfl, X9 14 _ rfl, X9 15 _ rfl, X9 16 _ rfl, X9 17 _ rfl, X9 18 _ rfl, X9 19 _ rfl, X9 20 _ rfl, X9 21 _ rfl, X9 22 _ rfl, X9 23 _ rfl, X9 26 _ rfl, X9 27 _ rfl, X9 28 _ rfl, X9 29 _ rfl, X9 30 _ rfl, X9 31 _ rfl, X9 32 _ rfl, X9 33 _ rfl, X9 34 _ rfl, X9 35 _ rfl, X9 36 _ rfl, X9 37 _ rfl, X9 38 _ rfl, X9 39 _ rfl, X9 40 _ rfl, X9 41 _ rfl, X9 42 _ rfl, X9 43 _ rfl, X9 44 _ rfl, X9 45 _ rfl, X9 46 _ rfl, X9 47 _ rfl, X9 48 _ rfl, X9 49 _ rfl, X9 50 _ rfl, X9 51 _ rfl, X9 52 _ rfl, X9 53 _ rfl, X9 54 _ rfl, X9 55 _ rfl, X9 56 _ rfl, X9 57 _ rfl, X9 58 _ rfl, X9 59 _ rfl, X9 60 _ rfl, x6]
  clear X9 x6
  obtain ⟨⟨j4, j5⟩, l9⟩ := hG9
  have HL := Lib.hid l9
  have J4 := Lib.hid j4
  have J5 := Lib.hid j5
  clear l9 j4 j5 k4 k5 HOK L1
  go_wp2
  refine bodyPost_ret (v := .tuple #[.agg #[.int .u64 W8.zero.a0, .int .u64 W8.zero.a1, .int .u64 W8.zero.a2, .int .u64 W8.zero.a3, .int .u64 W8.zero.a4, .int .u64 W8.zero.a5, .int .u64 W8.zero.a6, .int .u64 W8.zero.a7, .int .u64 W8.zero.a0, .int .u64 W8.zero.a1, .int .u64 W8.zero.a2, .int .u64 W8.zero.a3, .int .u64 W8.zero.a4, .int .u64 W8.zero.a5, .int .u64 W8.zero.a6, .int .u64 W8.zero.a7], .agg #[.int .u64 W8.zero.a0, .int .u64 W8.zero.a1, .int .u64 W8.zero.a2, .int .u64 W8.zero.a3, .int .u64 W8.zero.a4, .int .u64 W8.zero.a5, .int .u64 W8.zero.a6, .int .u64 W8.zero.a7, .int .u64 W8.zero.a0, .int .u64 W8.zero.a1, .int .u64 W8.zero.a2, .int .u64 W8.zero.a3, .int .u64 W8.zero.a4, .int .u64 W8.zero.a5, .int .u64 W8.zero.a6, .int .u64 W8.zero.a7], .int .i64 2]) (enc_res rfl rfl rfl J4.out J5.out) rfl ?_
  exact encPost_early HE.out (by decide) HL.out
 ·have hb2 : ¬ b < 0 := by omega
  go_upto_region 5 with (fail)
  rename_i KN hKN
  refine wp_region_ghost (ec5_rows g4 g5 #[.int .u64 W8.zero.a0, .int .u64 W8.zero.a1, .int .u64 W8.zero.a2, .int .u64 W8.zero.a3, .int .u64 W8.zero.a4, .int .u64 W8.zero.a5, .int .u64 W8.zero.a6, .int .u64 W8.zero.a7, .int .u64 W8.zero.a0, .int .u64 W8.zero.a1, .int .u64 W8.zero.a2, .int .u64 W8.zero.a3, .int .u64 W8.zero.a4, .int .u64 W8.zero.a5, .int .u64 W8.zero.a6, .int .u64 W8.zero.a7] #[.int .u64 W8.zero.a0, .int .u64 W8.zero.a1, .int .u64 W8.zero.a2, .int .u64 W8.zero.a3, .int .u64 W8.zero.a4, .int .u64 W8.zero.a5, .int .u64 W8.zero.a6, .int .u64 W8.zero.a7, .int .u64 W8.zero.a0, .int .u64 W8.zero.a1, .int .u64 W8.zero.a2, .int .u64 W8.zero.a3, .int .u64 W8.zero.a4, .int .u64 W8.zero.a5, .int .u64 W8.zero.a6, .int .u64 W8.zero.a7]) (ec5_base g4 g5 #[.int .u64 W8.zero.a0, .int .u64 W8.zero.a1, .int .u64 W8.zero.a2, .int .u64 W8.zero.a3, .int .u64 W8.zero.a4, .int .u64 W8.zero.a5, .int .u64 W8.zero.a6, .int .u64 W8.zero.a7, .int .u64 W8.zero.a0, .int .u64 W8.zero.a1, .int .u64 W8.zero.a2, .int .u64 W8.zero.a3, .int .u64 W8.zero.a4, .int .u64 W8.zero.a5, .int .u64 W8.zero.a6, .int .u64 W8.zero.a7] #[.int .u64 W8.zero.a0, .int .u64 W8.zero.a1, .int .u64 W8.zero.a2, .int .u64 W8.zero.a3, .int .u64 W8.zero.a4, .int .u64 W8.zero.a5, .int .u64 W8.zero.a6, .int .u64 W8.zero.a7, .int .u64 W8.zero.a0, .int .u64 W8.zero.a1, .int .u64 W8.zero.a2, .int .u64 W8.zero.a3, .int .u64 W8.zero.a4, .int .u64 W8.zero.a5, .int .u64 W8.zero.a6, .int .u64 W8.zero.a7] _ _ _ _ _ _ _ _ _ _ _ _ _ _ _ _ _ _ _ _ _ _ _ _ _ _ _ _ _ _ _ _ _ _ _ _ _ _ _ _ _ _ _ _ _ _ _ _ _ _ _ _ _ _ _ _) 61 5 [[], [], [0, 0], [1, 2, 0, 1, 2], [3, 0, 1, 2, 3]] (PairG _ _ _ _ _ _) (by kernel_rfl) (by kernel_rfl) (by kernel_rfl) (by kernel_rfl) (by kernel_rfl) (by kernel_rfl) (by rfl) rfl (base_of (by repeat (first | exact base_nil _ | refine base_consL rfl ?_))) ⟨⟨k4.later (Lat.drew _), k5.later (Lat.drew _)⟩, L1.out.trans (Lat.drew _)⟩ (ec5_steps w g4 g5 #[.int .u64 W8.zero.a0, .int .u64 W8.zero.a1, .int .u64 W8.zero.a2, .int .u64 W8.zero.a3, .int .u64 W8.zero.a4, .int .u64 W8.zero.a5, .int .u64 W8.zero.a6, .int .u64 W8.zero.a7, .int .u64 W8.zero.a0, .int .u64 W8.zero.a1, .int .u64 W8.zero.a2, .int .u64 W8.zero.a3, .int .u64 W8.zero.a4, .int .u64 W8.zero.a5, .int .u64 W8.zero.a6, .int .u64 W8.zero.a7] #[.int .u64 W8.zero.a0, .int .u64 W8.zero.a1, .int .u64 W8.zero.a2, .int .u64 W8.zero.a3, .int .u64 W8.zero.a4, .int .u64 W8.zero.a5, .int .u64 W8.zero.a6, .int .u64 W8.zero.a7, .int .u64 W8.zero.a0, .int .u64 W8.zero.a1, .int .u64 W8.zero.a2, .int .u64 W8.zero.a3, .int .u64 W8.zero.a4, .int .u64 W8.zero.a5, .int .u64 W8.zero.a6, .int .u64 W8.zero.a7] _ _ _ _ _ _ _ _ _ _ _ _ _ _ _ _ _ _ _ _ _ _ _ _ _ _ _ _ _ _ _ _ _ _ _ _ _ _ _ _ _ _ _ _ _ _ _ _ _ _ _ _ _ _ _ _ (HOK.out)) ?_
  intro m9 a9 W9 hall9 hsz9 hdf9 hG9 hbs hsl
  obtain ⟨v9, h9, q9⟩ := hsl 4 _ _ rfl rfl
  obtain rfl := q9
  have w6 := slot_getD h9
  clear h9
  refine hKN _ _ ?_
  obtain ⟨T9, df9⟩ := a9
  obtain rfl : df9 = [] := hdf9
  obtain ⟨f, hf, rfl⟩ := spell61 T9 hsz9
  have X9 := fun k v h => (hf k).trans (slot_getD (hbs k v h))
  have x6 := (hf 6).trans w6
  clear hbs hsl hf hsz9 hKN w6
  simp only [X9 4 _ rfl, X9 5 _ rfl, X9 0 _ rfl, X9 1 _ rfl, X9 2 _ rfl, X9 3 _ rfl, X9 7 _ rfl, X9 8 _ rfl, X9 9 _ rfl, X9 10 _ rfl, X9 11 _ rfl, X9 12 _ rfl, X9 13 _ rfl, X9 14 _ rfl, X9 15 _ rfl, X9 16 _ rfl, X9 17 _ rfl, X9 18 _ rfl, X9 19 _ rfl, X9 20 _ rfl, X9 21 _ rfl, X9 22 _ rfl, X9 23 _ rfl, X9 26 _ rfl, X9 27 _ rfl, X9 28 _ rfl, X9 29 _ rfl, X9 30 _ rfl, X9 31 _ rfl, X9 32 _ rfl, X9 33 _ rfl, X9 34 _ rfl, X9 35 _ rfl, X9 36 _ rfl, X9 37 _ rfl, X9 38 _ rfl, X9 39 _ rfl, X9 40 _ rfl, X9 41 _ rfl, X9 42 _ rfl, X9 43 _ rfl, X9 44 _ rfl, X9 45 _ rfl, X9 46 _ rfl, X9 47 _ rfl, X9 48 _ rfl, X9 49 _ rfl, X9 50 _ rfl, X9 51 _ rfl, X9 52 _ rfl, X9 53 _ rfl, X9 54 _ rfl, X9 55 _ rfl, X9 56 _ rfl, X9 57 _ rfl, X9 58 _ rfl, X9 59 _ rfl, X9 60 _ rfl, x6]
  clear X9 x6
  obtain ⟨⟨j4, j5⟩, l9⟩ := hG9
  have HL := Lib.hid l9
  have J4 := Lib.hid j4
  have J5 := Lib.hid j5
  clear l9 j4 j5 k4 k5 HOK L1
  go_wp2
  refine bodyPost_ret (v := .tuple #[.agg #[.int .u64 W8.zero.a0, .int .u64 W8.zero.a1, .int .u64 W8.zero.a2, .int .u64 W8.zero.a3, .int .u64 W8.zero.a4, .int .u64 W8.zero.a5, .int .u64 W8.zero.a6, .int .u64 W8.zero.a7, .int .u64 W8.zero.a0, .int .u64 W8.zero.a1, .int .u64 W8.zero.a2, .int .u64 W8.zero.a3, .int .u64 W8.zero.a4, .int .u64 W8.zero.a5, .int .u64 W8.zero.a6, .int .u64 W8.zero.a7], .agg #[.int .u64 W8.zero.a0, .int .u64 W8.zero.a1, .int .u64 W8.zero.a2, .int .u64 W8.zero.a3, .int .u64 W8.zero.a4, .int .u64 W8.zero.a5, .int .u64 W8.zero.a6, .int .u64 W8.zero.a7, .int .u64 W8.zero.a0, .int .u64 W8.zero.a1, .int .u64 W8.zero.a2, .int .u64 W8.zero.a3, .int .u64 W8.zero.a4, .int .u64 W8.zero.a5, .int .u64 W8.zero.a6, .int .u64 W8.zero.a7], .int .i64 2]) (enc_res rfl rfl rfl J4.out J5.out) rfl ?_
  exact encPost_early HE.out (by decide) HL.out
end Go.Proofs.YtakhiomcneikkaaGreat
