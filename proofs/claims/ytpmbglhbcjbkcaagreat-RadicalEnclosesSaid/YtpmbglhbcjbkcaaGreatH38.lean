/- Several texts in one: RdEc. -/
import Derived.Test.YtpmbglhbcjbkcaaGreatH36
import Derived.Test.YtpmbglhbcjbkcaaGreatH37
namespace Go.Proofs.YtpmbglhbcjbkcaaGreat
set_option maxHeartbeats 16000000
set_option maxRecDepth 100000
open Go.RowKit
set_option linter.unusedSimpArgs false
set_option linter.unusedVariables false
noncomputable def zgV (l : List (Int × Int)) (b : Int) : Int := if ckE l = 0 then (if b < 0 ∨ 400 < b then 2 else 0) else 30
def EncIs (l : List (Int × Int)) (b : Int) (u1 v1 u2 v2 : W8) (r : Int) : Prop :=
 (zgV l b ≠ 0 ∧ r = zgV l b ∧ u1 = W8.zero ∧ v1 = W8.zero ∧ u2 = W8.zero ∧ v2 = W8.zero) ∨
 (zgV l b = 0 ∧ ((r = 0 ∧ ShareIs (zaT (sLo l b.toNat) (2 ^ b.toNat)) (zaU (sLo l b.toNat) (2 ^ b.toNat)) u1 v1 0 ∧ ShareIs (zaT (sHi l b.toNat) (2 ^ b.toNat)) (zaU (sHi l b.toNat) (2 ^ b.toNat)) u2 v2 0) ∨
   (r = 6 ∧ u1 = W8.zero ∧ v1 = W8.zero ∧ u2 = W8.zero ∧ v2 = W8.zero ∧ ((∃ u v, ShareIs (zaT (sLo l b.toNat) (2 ^ b.toNat)) (zaU (sLo l b.toNat) (2 ^ b.toNat)) u v 6) ∨ ∃ u v, ShareIs (zaT (sHi l b.toNat) (2 ^ b.toNat)) (zaU (sHi l b.toNat) (2 ^ b.toNat)) u v 6))))
theorem za4 {N D : Int} {u v u' v' : W8} {r r' : Int} (h : ShareIs N D u v r) (h' : ShareIs N D u' v' r') : u = u' ∧ v = v' ∧ r = r' := by
 rcases h with ⟨a1, a2, a3, a4, a5, a6, a7⟩ | ⟨a1, a2, a3, a4⟩
 ·rcases h' with ⟨b1, b2, b3, b4, b5, b6, b7⟩ | ⟨b1, b2, b3, b4⟩
  ·subst a5 a6 a7 b5 b6 b7; exact ⟨rfl, rfl, rfl⟩
  ·exfalso; omega
 ·rcases h' with ⟨b1, b2, b3, b4, b5, b6, b7⟩ | ⟨b1, b2, b3, b4⟩
  ·exfalso; omega
  ·subst a2 a3 a4 b2 b3 b4; exact ⟨rfl, rfl, rfl⟩
theorem zgW {l : List (Int × Int)} {b : Int} {u1 v1 u2 v2 u1' v1' u2' v2' : W8} {r r' : Int} (h : EncIs l b u1 v1 u2 v2 r) (h' : EncIs l b u1' v1' u2' v2' r') : u1 = u1' ∧ v1 = v1' ∧ u2 = u2' ∧ v2 = v2' ∧ r = r' := by
 rcases h with ⟨a0, a1, a2, a3, a4, a5⟩ | ⟨a0, a⟩
 ·rcases h' with ⟨b0, b1, b2, b3, b4, b5⟩ | ⟨b0, _⟩
  ·subst a1 a2 a3 a4 a5 b1 b2 b3 b4 b5; exact ⟨rfl, rfl, rfl, rfl, rfl⟩
  ·exact absurd b0 a0
 ·rcases h' with ⟨b0, _⟩ | ⟨b0, b⟩
  ·exact absurd a0 b0
  ·rcases a with ⟨a1, a2, a3⟩ | ⟨a1, a2, a3, a4, a5, a6⟩
   ·rcases b with ⟨b1, b2, b3⟩ | ⟨b1, b2, b3, b4, b5, ⟨u, v, b6⟩ | ⟨u, v, b6⟩⟩
    ·obtain ⟨c1, c2, _⟩ := za4 a2 b2
     obtain ⟨c3, c4, _⟩ := za4 a3 b3
     exact ⟨c1, c2, c3, c4, by rw [a1, b1]⟩
    ·have := (za4 a2 b6).2.2; cases this
    ·have := (za4 a3 b6).2.2; cases this
   ·rcases b with ⟨b1, b2, b3⟩ | ⟨b1, b2, b3, b4, b5, _⟩
    ·rcases a6 with ⟨u, v, a6⟩ | ⟨u, v, a6⟩
     ·have := (za4 b2 a6).2.2; cases this
     ·have := (za4 b3 a6).2.2; cases this
    ·subst a1 a2 a3 a4 a5 b1 b2 b3 b4 b5; exact ⟨rfl, rfl, rfl, rfl, rfl⟩
def zcb (w : World) (l : List (Int × Int)) (b : Int) (e : Ending) (w' : World) : Prop :=
 ∃ (u1 v1 u2 v2 : W8) (r : Int), e = .returned (.tuple #[.agg (W8.two u1 v1), .agg (W8.two u2 v2), .int .i64 r]) ∧ EncIs l b u1 v1 u2 v2 r ∧ Lat w w'
theorem za7 {w w' : World} {l : List (Int × Int)} {b z : Int} (hz : zgV l b = z) (h0 : z ≠ 0) (hl : Lat w w') : zcb w l b (.returned (.tuple #[.agg (W8.two W8.zero W8.zero), .agg (W8.two W8.zero W8.zero), .int .i64 z])) w' :=
 ⟨W8.zero, W8.zero, W8.zero, W8.zero, z, rfl, .inl ⟨by rw [hz]; exact h0, hz.symm, rfl, rfl, rfl, rfl⟩, hl⟩
theorem zdw {W0 : World} {g h : Nat} {u1 v1 u2 v2 : W8} (h1 : W0.heap.size ≤ g) (h2 : W0.heap.size ≤ h) (h3 : g ≠ h) : zfn Tryz.prog W0 g h 40 (W8.two u1 v1) (W8.two u2 v2) :=
 ⟨h1, h2, h3, ⟨_, Tryz.underlying40, rfl⟩, zao, zao, by simp [Value.oneCell'], by simp [Value.oneCell']⟩
theorem zdx {W : World} {g h : Nat} {u1 v1 u2 v2 : W8} {r : Int} {T : Array Value} (h4 : T[4]? = some (.pointer (some ⟨g, 0, none⟩))) (h5 : T[5]? = some (.pointer (some ⟨h, 0, none⟩))) (h6 : T[6]? = some (.int .i64 r))
  (k4 : Blk W g 40 (W8.two u1 v1)) (k5 : Blk W h 40 (W8.two u2 v2)) : (results Tryz.f9 T).run Tryz.prog W = .ok (.tuple #[.agg (W8.two u1 v1), .agg (W8.two u2 v2), .int .i64 r]) W := by
 have a4 := run_loadVar_mid (P := Tryz.prog) W g 0 40 [u1.b0, u1.b1, u1.b2, u1.b3, u1.b4, u1.b5, u1.b6, u1.b7, v1.b0, v1.b1, v1.b2, v1.b3, v1.b4, v1.b5, v1.b6, v1.b7] _ k4.rangeAll Tryz.underlying40 rfl zao
 have a5 := run_loadVar_mid (P := Tryz.prog) W h 0 40 [u2.b0, u2.b1, u2.b2, u2.b3, u2.b4, u2.b5, u2.b6, u2.b7, v2.b0, v2.b1, v2.b2, v2.b3, v2.b4, v2.b5, v2.b6, v2.b7] _ k5.rangeAll Tryz.underlying40 rfl zao
 unfold results
 rw [Tryz.results9]
 skip
 simp [h4, h5, h6, asAddr, a4, a5, Sem.run_bind, Sem.run_pure, Result.andThen_ok]
theorem zf3 (T : Array Value) (h : T.size = 61) : ∃ f : Nat → Value, (∀ k, f k = T.getD k undef) ∧ T = #[f 0, f 1, f 2, f 3, f 4, f 5, f 6, f 7, f 8, f 9, f 10, f 11, f 12, f 13, f 14, f 15, f 16, f 17, f 18, f 19, f 20, f 21, f 22, f 23, f 24, f 25, f 26, f 27, f 28, f 29, f 30, f 31, f 32, f 33, f 34, f 35, f 36, f 37, f 38, f 39, f 40, f 41, f 42, f 43, f 44, f 45, f 46, f 47, f 48, f 49, f 50, f 51, f 52, f 53, f 54, f 55, f 56, f 57, f 58, f 59, f 60] := ⟨fun k => T.getD k undef, fun _ => rfl, (spell 61 T h).trans (by kernel_rfl)⟩
noncomputable def zf4 (g4 g5 : Nat) (X Y : Array Value) (e : Int) : List SRow := [
 ⟨.load 40 (.tmp 4), some 15, none, [], fun v _ => v = .agg X⟩,
 ⟨.load 40 (.tmp 5), some 16, none, [], fun v _ => v = .agg Y⟩,
 ⟨.move (.tmp 7), some 17, none, [], fun v _ => v = .int .i64 e⟩,
 ⟨.store 40 (.tmp 4) (.tmp 15), none, none, [0, 0], fun _ _ => True⟩,
 ⟨.store 40 (.tmp 5) (.tmp 16), none, none, [1, 3, 0, 1, 3], fun _ _ => True⟩,
 ⟨.assign (.tmp 17), some 6, none, [2, 4, 0, 1, 2, 3, 4], fun v _ => v = .int .i64 e⟩]
noncomputable def zix (g4 g5 : Nat) (X Y : Array Value) (e : Int) : List (Nat × Value) := [(4, .pointer (some ⟨g4, 0, none⟩)), (5, .pointer (some ⟨g5, 0, none⟩)), (7, .int .i64 e)]
theorem zkY (V : World) (g4 g5 : Nat) (X Y : Array Value) (e : Int) (hok : zfn Tryz.prog V g4 g5 40 X Y) :
  AllStepsH Tryz.prog (zf4 g4 g5 X Y e) (zix g4 g5 X Y e) 61 [[], [], [], [0, 0], [1, 3, 0, 1, 3], [2, 4, 0, 1, 2, 3, 4]] (zdu V g4 g5 40 X Y) 0 (zf4 g4 g5 X Y e) := by
 refine zdv 4 rfl (.inl ⟨rfl, rfl⟩) hok ?_
 refine zdv 5 rfl (.inr ⟨rfl, rfl⟩) hok ?_
 refine ziw (fun a w hb hd o ho => by have e1 := hb 7 _ rfl; exact zhu (S := fun _ => True) e1 o w ho trivial) ?_
 refine zcv 4 15 0 rfl (.inl ⟨rfl, rfl⟩) (by simp) rfl rfl (fun _ _ h => h) hok ?_
 refine zcv 5 16 1 rfl (.inr ⟨rfl, rfl⟩) (by simp) rfl rfl (fun _ _ h => h) hok ?_
 refine ziw (fun a w hb hd o ho => by obtain ⟨v1, s1, q1⟩ := hd 2 _ _ (by simp) rfl rfl; have e1 := s1.ev; subst q1; exact zcs (S := fun _ => True) e1 o w ho trivial) ?_
 exact AllStepsH.none
noncomputable def zdP (g4 g5 : Nat) (X Y : Array Value)  : List SRow := [
 ⟨.load 40 (.tmp 4), some 24, none, [], fun v _ => v = .agg X⟩,
 ⟨.load 40 (.tmp 5), some 25, none, [], fun v _ => v = .agg Y⟩,
 ⟨.store 40 (.tmp 4) (.tmp 24), none, none, [0, 0], fun _ _ => True⟩,
 ⟨.store 40 (.tmp 5) (.tmp 25), none, none, [1, 2, 0, 1, 2], fun _ _ => True⟩,
 ⟨.assign (.const (.int .i64 2)), some 6, none, [3, 0, 1, 2, 3], fun v _ => v = .int .i64 2⟩]
noncomputable def zf5 (g4 g5 : Nat) (X Y : Array Value)  : List (Nat × Value) := [(4, .pointer (some ⟨g4, 0, none⟩)), (5, .pointer (some ⟨g5, 0, none⟩))]
theorem zgX (V : World) (g4 g5 : Nat) (X Y : Array Value)  (hok : zfn Tryz.prog V g4 g5 40 X Y) :
  AllStepsH Tryz.prog (zdP g4 g5 X Y ) (zf5 g4 g5 X Y ) 61 [[], [], [0, 0], [1, 2, 0, 1, 2], [3, 0, 1, 2, 3]] (zdu V g4 g5 40 X Y) 0 (zdP g4 g5 X Y ) := by
 refine zdv 4 rfl (.inl ⟨rfl, rfl⟩) hok ?_
 refine zdv 5 rfl (.inr ⟨rfl, rfl⟩) hok ?_
 refine zcv 4 24 0 rfl (.inl ⟨rfl, rfl⟩) (by simp) rfl rfl (fun _ _ h => h) hok ?_
 refine zcv 5 25 1 rfl (.inr ⟨rfl, rfl⟩) (by simp) rfl rfl (fun _ _ h => h) hok ?_
 refine ziw (fun a w hb hd o ho => by have e1 : a.eval (.const (.int .i64 2)) = .int .i64 2 := rfl; exact zcs (S := fun _ => True) e1 o w ho trivial) ?_
 exact AllStepsH.none
noncomputable def zet (g4 g5 : Nat) (X Y : Array Value)  : List SRow := [
 ⟨.load 40 (.tmp 4), some 59, none, [], fun v _ => v = .agg X⟩,
 ⟨.load 40 (.tmp 5), some 60, none, [], fun v _ => v = .agg Y⟩,
 ⟨.store 40 (.tmp 4) (.tmp 59), none, none, [0, 0], fun _ _ => True⟩,
 ⟨.store 40 (.tmp 5) (.tmp 60), none, none, [1, 2, 0, 1, 2], fun _ _ => True⟩,
 ⟨.assign (.const (.int .i64 0)), some 6, none, [3, 0, 1, 2, 3], fun v _ => v = .int .i64 0⟩]
noncomputable def zgY (g4 g5 : Nat) (X Y : Array Value)  : List (Nat × Value) := [(4, .pointer (some ⟨g4, 0, none⟩)), (5, .pointer (some ⟨g5, 0, none⟩))]
theorem zjn (V : World) (g4 g5 : Nat) (X Y : Array Value)  (hok : zfn Tryz.prog V g4 g5 40 X Y) :
  AllStepsH Tryz.prog (zet g4 g5 X Y ) (zgY g4 g5 X Y ) 61 [[], [], [0, 0], [1, 2, 0, 1, 2], [3, 0, 1, 2, 3]] (zdu V g4 g5 40 X Y) 0 (zet g4 g5 X Y ) := by
 refine zdv 4 rfl (.inl ⟨rfl, rfl⟩) hok ?_
 refine zdv 5 rfl (.inr ⟨rfl, rfl⟩) hok ?_
 refine zcv 4 59 0 rfl (.inl ⟨rfl, rfl⟩) (by simp) rfl rfl (fun _ _ h => h) hok ?_
 refine zcv 5 60 1 rfl (.inr ⟨rfl, rfl⟩) (by simp) rfl rfl (fun _ _ h => h) hok ?_
 refine ziw (fun a w hb hd o ho => by have e1 : a.eval (.const (.int .i64 0)) = .int .i64 0 := rfl; exact zcs (S := fun _ => True) e1 o w ho trivial) ?_
 exact AllStepsH.none
theorem znD (A : Option Addr) (n c : Nat) (l : List (Int × Int)) (b : Int) (w : World) (hs : RowM w A 2 n (zab l)) (hn : n ≤ 1000000) (hv : ¬ ValidR l) :
  Calls Tryz.prog 9 #[.slice A n c, .int .i64 b] w (zcb w l b) := by
 have HS := Lib.hid hs
 have HE : Hid (zgV l b = 30) := by show _ = _; unfold zgV; rw [zcm hv]; rfl
 have HC := Lib.hid (fun w' (h : Lat w w') => by have := zaP A n c l w' (hs.later h) hn; rwa [zcm hv] at this)
 clear hs hv
 go_enter Tryz.func9, Tryz.ntmps9
 go_upto_region 1 with (fail)
 refine zaK (Q := fun W => Code.wp _ _ _ _ W) ?_
 intro W hl hsz k4 k5
 obtain ⟨g5, hg5⟩ : ∃ z, w.heap.size + 1 = z := ⟨_, rfl⟩
 obtain ⟨g4, hg4⟩ : ∃ z, w.heap.size = z := ⟨_, rfl⟩
 have HG : Hid (g4 < g5 ∧ w.heap.size = g4) := by show g4 < g5 ∧ w.heap.size = g4; omega
 rw [hg5] at k5 ⊢
 rw [hg4] at k4 ⊢
 clear hg5 hg4 hsz
 go_wp2_with fail
 refine (HC.out W hl).mono ?_
 rintro e w1 ⟨rfl, l1⟩
 replace k4 := k4.later l1
 replace k5 := k5.later l1
 have L1 := Lib.hid (hl.trans l1)
 clear hl l1 HC
 have HOK := Lib.hid (zdw (W0 := w) (g := g4) (h := g5) (u1 := W8.zero) (v1 := W8.zero) (u2 := W8.zero) (v2 := W8.zero) (by have := HG.out; omega) (by have := HG.out; omega) (by have := HG.out; omega))
 go_upto_region 3 with (fail)
 rename_i KN hKN
 refine za3 (zf4 g4 g5 (W8.two W8.zero W8.zero) (W8.two W8.zero W8.zero) 30) (zix g4 g5 (W8.two W8.zero W8.zero) (W8.two W8.zero W8.zero) 30) 61 6 [[], [], [], [0, 0], [1, 3, 0, 1, 3], [2, 4, 0, 1, 2, 3, 4]] (zdu _ _ _ _ _ _) (by kernel_rfl) (by kernel_rfl) (by kernel_rfl) (by kernel_rfl) (by kernel_rfl) (by kernel_rfl) (by rfl) rfl (base_of (by repeat (first | exact base_nil _ | refine zad rfl ?_))) ⟨⟨k4.later (Lat.drew _), k5.later (Lat.drew _)⟩, L1.out.trans (Lat.drew _)⟩ (zkY w g4 g5 (W8.two W8.zero W8.zero) (W8.two W8.zero W8.zero) 30 (HOK.out)) ?_
 intro m9 a9 W9 hall9 hsz9 hdf9 hG9 hbs hsl
 obtain ⟨v9, h9, q9⟩ := hsl 5 _ _ rfl rfl
 obtain rfl := q9
 have w6 := zaa h9
 clear h9
 refine hKN _ _ ?_
 obtain ⟨T9, df9⟩ := a9
 obtain rfl : df9 = [] := hdf9
 obtain ⟨f, hf, rfl⟩ := zf3 T9 hsz9
 have X9 := fun k v h => (hf k).trans (zaa (hbs k v h))
 have x6 := (hf 6).trans w6
 clear hbs hsl hf hsz9 hKN w6
 simp only [X9 4 _ rfl, X9 5 _ rfl, X9 7 _ rfl, x6]
 clear X9 x6
 obtain ⟨⟨j4, j5⟩, l9⟩ := hG9
 have HL := Lib.hid l9
 have J4 := Lib.hid j4
 have J5 := Lib.hid j5
 clear l9 j4 j5 k4 k5 HOK L1
 go_wp2
 refine bodyPost_ret (v := .tuple #[.agg (W8.two W8.zero W8.zero), .agg (W8.two W8.zero W8.zero), .int .i64 30]) (zdx rfl rfl rfl J4.out J5.out) rfl ?_
 exact za7 HE.out (by decide) HL.out
theorem znE (A : Option Addr) (n c : Nat) (l : List (Int × Int)) (b : Int) (w : World) (hs : RowM w A 2 n (zab l)) (hn : n ≤ 1000000) (hv : ValidR l) (hb : b < 0 ∨ 400 < b) :
  Calls Tryz.prog 9 #[.slice A n c, .int .i64 b] w (zcb w l b) := by
 have HS := Lib.hid hs
 have HE : Hid (zgV l b = 2) := by show _ = _; unfold zgV; rw [zaG hv, if_pos rfl, if_pos hb]
 have HC := Lib.hid (fun w' (h : Lat w w') => by have := zaP A n c l w' (hs.later h) hn; rwa [zaG hv] at this)
 clear hs hv
 go_enter Tryz.func9, Tryz.ntmps9
 go_upto_region 1 with (fail)
 refine zaK (Q := fun W => Code.wp _ _ _ _ W) ?_
 intro W hl hsz k4 k5
 obtain ⟨g5, hg5⟩ : ∃ z, w.heap.size + 1 = z := ⟨_, rfl⟩
 obtain ⟨g4, hg4⟩ : ∃ z, w.heap.size = z := ⟨_, rfl⟩
 have HG : Hid (g4 < g5 ∧ w.heap.size = g4) := by show g4 < g5 ∧ w.heap.size = g4; omega
 rw [hg5] at k5 ⊢
 rw [hg4] at k4 ⊢
 clear hg5 hg4 hsz
 go_wp2_with fail
 refine (HC.out W hl).mono ?_
 rintro e w1 ⟨rfl, l1⟩
 replace k4 := k4.later l1
 replace k5 := k5.later l1
 have L1 := Lib.hid (hl.trans l1)
 clear hl l1 HC
 have HOK := Lib.hid (zdw (W0 := w) (g := g4) (h := g5) (u1 := W8.zero) (v1 := W8.zero) (u2 := W8.zero) (v2 := W8.zero) (by have := HG.out; omega) (by have := HG.out; omega) (by have := HG.out; omega))
 rcases hb with hb | hb
 ·go_upto_region 5 with (fail)
  rename_i KN hKN
  refine za3 (zdP g4 g5 (W8.two W8.zero W8.zero) (W8.two W8.zero W8.zero)) (zf5 g4 g5 (W8.two W8.zero W8.zero) (W8.two W8.zero W8.zero)) 61 5 [[], [], [0, 0], [1, 2, 0, 1, 2], [3, 0, 1, 2, 3]] (zdu _ _ _ _ _ _) (by kernel_rfl) (by kernel_rfl) (by kernel_rfl) (by kernel_rfl) (by kernel_rfl) (by kernel_rfl) (by rfl) rfl (base_of (by repeat (first | exact base_nil _ | refine zad rfl ?_))) ⟨⟨k4.later (Lat.drew _), k5.later (Lat.drew _)⟩, L1.out.trans (Lat.drew _)⟩ (zgX w g4 g5 (W8.two W8.zero W8.zero) (W8.two W8.zero W8.zero) (HOK.out)) ?_
  intro m9 a9 W9 hall9 hsz9 hdf9 hG9 hbs hsl
  obtain ⟨v9, h9, q9⟩ := hsl 4 _ _ rfl rfl
  obtain rfl := q9
  have w6 := zaa h9
  clear h9
  refine hKN _ _ ?_
  obtain ⟨T9, df9⟩ := a9
  obtain rfl : df9 = [] := hdf9
  obtain ⟨f, hf, rfl⟩ := zf3 T9 hsz9
  have X9 := fun k v h => (hf k).trans (zaa (hbs k v h))
  have x6 := (hf 6).trans w6
  clear hbs hsl hf hsz9 hKN w6
  simp only [X9 4 _ rfl, X9 5 _ rfl, x6]
  clear X9 x6
  obtain ⟨⟨j4, j5⟩, l9⟩ := hG9
  have HL := Lib.hid l9
  have J4 := Lib.hid j4
  have J5 := Lib.hid j5
  clear l9 j4 j5 k4 k5 HOK L1
  go_wp2
  refine bodyPost_ret (v := .tuple #[.agg (W8.two W8.zero W8.zero), .agg (W8.two W8.zero W8.zero), .int .i64 2]) (zdx rfl rfl rfl J4.out J5.out) rfl ?_
  exact za7 HE.out (by decide) HL.out
 ·have hb2 : ¬ b < 0 := by omega
  go_upto_region 5 with (fail)
  rename_i KN hKN
  refine za3 (zdP g4 g5 (W8.two W8.zero W8.zero) (W8.two W8.zero W8.zero)) (zf5 g4 g5 (W8.two W8.zero W8.zero) (W8.two W8.zero W8.zero)) 61 5 [[], [], [0, 0], [1, 2, 0, 1, 2], [3, 0, 1, 2, 3]] (zdu _ _ _ _ _ _) (by kernel_rfl) (by kernel_rfl) (by kernel_rfl) (by kernel_rfl) (by kernel_rfl) (by kernel_rfl) (by rfl) rfl (base_of (by repeat (first | exact base_nil _ | refine zad rfl ?_))) ⟨⟨k4.later (Lat.drew _), k5.later (Lat.drew _)⟩, L1.out.trans (Lat.drew _)⟩ (zgX w g4 g5 (W8.two W8.zero W8.zero) (W8.two W8.zero W8.zero) (HOK.out)) ?_
  intro m9 a9 W9 hall9 hsz9 hdf9 hG9 hbs hsl
  obtain ⟨v9, h9, q9⟩ := hsl 4 _ _ rfl rfl
  obtain rfl := q9
  have w6 := zaa h9
  clear h9
  refine hKN _ _ ?_
  obtain ⟨T9, df9⟩ := a9
  obtain rfl : df9 = [] := hdf9
  obtain ⟨f, hf, rfl⟩ := zf3 T9 hsz9
  have X9 := fun k v h => (hf k).trans (zaa (hbs k v h))
  have x6 := (hf 6).trans w6
  clear hbs hsl hf hsz9 hKN w6
  simp only [X9 4 _ rfl, X9 5 _ rfl, x6]
  clear X9 x6
  obtain ⟨⟨j4, j5⟩, l9⟩ := hG9
  have HL := Lib.hid l9
  have J4 := Lib.hid j4
  have J5 := Lib.hid j5
  clear l9 j4 j5 k4 k5 HOK L1
  go_wp2
  refine bodyPost_ret (v := .tuple #[.agg (W8.two W8.zero W8.zero), .agg (W8.two W8.zero W8.zero), .int .i64 2]) (zdx rfl rfl rfl J4.out J5.out) rfl ?_
  exact za7 HE.out (by decide) HL.out
end Go.Proofs.YtpmbglhbcjbkcaaGreat
