/- Several texts in one: RdEd, RdL. -/
import Derived.Test.YtpmbglhbcjbkcaaGreatH38
namespace Go.Proofs.YtpmbglhbcjbkcaaGreat
set_option maxHeartbeats 16000000
set_option maxRecDepth 100000
open Go.RowKit
set_option linter.unusedSimpArgs false
set_option linter.unusedVariables false
theorem ziy (k : Nat) : (2 : Int) ^ k ≠ 0 := by have := Int.pow_pos (n := 2) (m := k) (by decide); omega
theorem Lg.apartZ {w : World} {b : Bool} {A : Option Addr} {n c : Nat} {z : Int} {g : Nat} {t : TypeId} {cs : Array Value} (h : Lg w b A n c z) (hb : Blk w g t cs) (hz : ∀ (j : Nat) (x : Int), cs[j]? = some (.int .u64 x) → x = 0) : 0 < n → ∀ a, A = some a → a.block ≠ g := by
 intro hn a ha e
 obtain ⟨_, xs, hs, _, hz2, _⟩ := h
 obtain ⟨a2, e2, _, hc⟩ := hs.2 hn
 rw [ha] at e2
 cases e2
 have hl := hs.1
 have hx : xs[n - 1]? = some (xs[n - 1]'(by omega)) := List.getElem?_eq_getElem (by omega)
 have h1 := hc _ _ hx
 have h2 : (∃ k : Nat, w.cell? (a.add (n - 1)) = cs[k]?) ∨ w.cell? (a.add (n - 1)) = none := by
  have hbk : w.heap[(a.add (n - 1)).block]? = some (.cells cs t (0, 0)) := by rw [block_add, e]; exact hb
  unfold World.cell?
  rw [hbk]
  dsimp only
  split
  ·exact .inr rfl
  ·exact .inl ⟨_, rfl⟩
 rcases h2 with ⟨k, h2⟩ | h2
 ·rw [h2] at h1
  have h3 := hz _ _ h1
  apply hz2
  rw [List.getLast?_eq_getElem?, hl, hx, h3]
 ·rw [h2] at h1; cases h1
theorem Lg.put {w w' : World} {b : Bool} {A : Option Addr} {n c : Nat} {z : Int} {g : Nat} {t : TypeId} {cs old : Array Value} (h : Lg w b A n c z) (hp : Put w w' g t cs) (hb : Blk w g t old) (hz : ∀ (j : Nat) (x : Int), old[j]? = some (.int .u64 x) → x = 0) : Lg w' b A n c z := by
 have ha := h.apartZ hb hz
 obtain ⟨hn, xs, hs, r⟩ := h
 refine ⟨hn, xs, ⟨hs.1, fun h0 => ?_⟩, r⟩
 obtain ⟨a, e, hlt, hc⟩ := hs.2 h0
 refine ⟨a, e, by rw [hp.size]; exact hlt, fun i x hx => ?_⟩
 have hk : w'.heap[(a.add i).block]? = w.heap[(a.add i).block]? := by rw [block_add]; exact hp.far _ (ha h0 a e)
 exact (World.cell?_of_block hk).trans (hc i x hx)
theorem zm0 : ∀ (j : Nat) (x : Int), ((W8.two W8.zero W8.zero) : Array Value)[j]? = some (.int .u64 x) → x = 0 := by
 intro j x h
 rcases Nat.lt_or_ge j 16 with hj | hj
 ·match j, hj with
  | 0, _ | 1, _ | 2, _ | 3, _ | 4, _ | 5, _ | 6, _ | 7, _ | 8, _ | 9, _ | 10, _ | 11, _ | 12, _ | 13, _ | 14, _ | 15, _ => cases h; rfl
 ·rw [Array.getElem?_eq_none (by simpa using hj)] at h; cases h
theorem zov (A : Option Addr) (n c : Nat) (l : List (Int × Int)) (k : Nat) (w : World) (hs : RowM w A 2 n (zab l)) (hv : ValidR l) (hk : k ≤ 400) :
  Calls Tryz.prog 9 #[.slice A n c, .int .i64 (k : Nat)] w (zcb w l (k : Nat)) := by
 have hn : n ≤ 1000 := by have := zbA hs; have := hv.len; omega
 have hval : ∀ x ∈ l, (-9223372036854775808 ≤ x.1 ∧ x.1 < 9223372036854775808) ∧ 0 ≤ x.2 ∧ x.2 < 9223372036854775808 := fun x hx => by
  obtain ⟨h1, h2, h3, h4, h5⟩ := hv.term x hx
  unfold zbo at h4
  omega
 have HE : Hid (zgV l (k : Nat) = 0) := by show _ = _; unfold zgV; rw [zaG hv, if_pos rfl, if_neg (by omega)]
 have HC := Lib.hid (fun w' (h : Lat w w') => by have := zaP A n c l w' (hs.later h) (by omega); rwa [zaG hv] at this)
 have HEN := Lib.hid (fun w' (h : Lat w w') => ziv A n c l k w' (hs.later h) hval hn (by omega))
 have HF2 := fun w => zaY 2 (by decide) (by decide) w
 have HRA := Lib.hid (fun b A n c w (h : Lg w b A n c 2) (hn : n ≤ 8) => zds b A n c 2 k w h hn (by omega))
 have HK := Lib.hid hk
 obtain ⟨b, hb⟩ : ∃ b : Int, (k : Int) = b := ⟨_, rfl⟩
 have hk1 : ¬ b < 0 := by omega
 have hk2 : ¬ (400 : Int) < b := by omega
 rw [hb] at HEN HRA HE ⊢
 have HB := Lib.hid (show b.toNat = k by omega)
 clear hs hv hval hn hk hb
 go_enter Tryz.func9, Tryz.ntmps9
 go_upto_region 1 with (fail)
 refine zaK (Q := fun W => Code.wp _ _ _ _ W) ?_
 intro W hl hsz k4 k5
 obtain ⟨g5, hg5⟩ : ∃ z, w.heap.size + 1 = z := ⟨_, rfl⟩
 obtain ⟨g4, hg4⟩ : ∃ z, w.heap.size = z := ⟨_, rfl⟩
 have HG : Hid (g4 < g5 ∧ w.heap.size = g4) := by show g4 < g5 ∧ w.heap.size = g4; omega
 rw [hg5] at k5 ⊢
 rw [hg4] at k4 ⊢
 clear hg5 hg4 hsz
 go_wp2_with fail
 refine (HC.out W hl).mono ?_
 rintro e w1 ⟨rfl, l1⟩
 replace k4 := k4.later l1
 replace k5 := k5.later l1
 have L1 := hl.trans l1
 clear hl l1 HC
 go_wp2_with fail
 refine (HEN.out w1 L1).mono ?_
 rintro e w2 ⟨bL, AL, nL, cL, bH, AH, nH, cH, rfl, rL, mL, rH, mH, l2⟩
 replace k4 := k4.later l2
 replace k5 := k5.later l2
 replace L1 := L1.trans l2
 have ML := Lib.hid mL
 have MH := Lib.hid mH
 clear l2 HEN hk1 hk2 mL mH
 go_upto_region 7 with (fail)
 refine zaK (Q := fun W => Code.wp _ _ _ _ W) ?_
 intro w3 la hsx k8 k9
 obtain ⟨g9, hg9⟩ : ∃ z, w2.heap.size + 1 = z := ⟨_, rfl⟩
 obtain ⟨g8, hg8⟩ : ∃ z, w2.heap.size = z := ⟨_, rfl⟩
 have HG8 : Hid (g5 < g8 ∧ g8 < g9) := by have := k5.lt; show g5 < g8 ∧ g8 < g9; omega
 rw [hg9] at k9 ⊢
 rw [hg8] at k8 ⊢
 replace k4 := k4.later la
 replace k5 := k5.later la
 replace rL := rL.later la
 replace rH := rH.later la
 replace L1 := L1.trans la
 clear la hsx hg9 hg8
 go_wp2_with fail
 refine (HF2 w3).mono ?_
 rintro e w4 ⟨bU, AU, nU, cU, rfl, rU, mU, la⟩
 replace k4 := k4.later la
 replace k5 := k5.later la
 replace k8 := k8.later la
 replace k9 := k9.later la
 replace rL := rL.later la
 replace rH := rH.later la
 replace L1 := L1.trans la
 clear la HF2
 go_wp2_with fail
 refine (HRA.out bU AU nU cU w4 rU mU).mono ?_
 rintro e w5 ⟨b0, A0, n0, c0, rfl, r0, m0, la⟩
 replace k4 := k4.later la
 replace k5 := k5.later la
 replace k8 := k8.later la
 replace k9 := k9.later la
 replace rL := rL.later la
 replace rH := rH.later la
 replace L1 := L1.trans la
 clear la HRA rU mU
 go_upto_region 8 with (fail)
 refine zas (Q := fun W => Code.wp _ _ _ _ W) ?_
 intro w6 la hsx k10
 obtain ⟨g10, hg10⟩ : ∃ z, w5.heap.size = z := ⟨_, rfl⟩
 have HG10 : Hid (g9 < g10) := by have := k9.lt; show g9 < g10; omega
 rw [hg10] at k10 ⊢
 replace k4 := k4.later la
 replace k5 := k5.later la
 replace k8 := k8.later la
 replace k9 := k9.later la
 replace rL := rL.later la
 replace rH := rH.later la
 replace r0 := r0.later la
 replace L1 := L1.trans la
 have M0 : Hid (n0 ≤ 3300) := by have := HK.out; show n0 ≤ 3300; omega
 have HP2 := Lib.hid (ziy k)
 clear la hsx hg10 m0
 have d0 := k8.cell 0
 have d1 := k8.cell 1
 have e0 := k10.cell 0
 have e1 := k10.cell 1
 go_wp2_with fail
 refine (zbW bL AL nL cL (sLo l k) b0 A0 n0 c0 (2 ^ k) w6 rL r0 HP2.out (by have := ML.out; omega) (by have := M0.out; omega)).mono ?_
 rintro e w7 ⟨y1, y2, y3, y4, z1, z2, z3, z4, rfl, ry, my, rz, mz, la⟩
 have HTO := zcL y1 y2 y3 y4 (zaT (sLo l k) (2 ^ k)) z1 z2 z3 z4 (zaU (sLo l k) (2 ^ k)) w7 ry rz (by have := ML.out; have := M0.out; omega) (by have := ML.out; have := M0.out; omega)
 replace k4 := k4.later la
 replace k5 := k5.later la
 replace k9 := k9.later la
 replace k10 := k10.later la
 replace rH := rH.later la
 replace r0 := r0.later la
 replace L1 := L1.trans la
 clear la ry my rz mz k8 d0 d1 e0 e1 rL
 go_wp2_with fail
 refine HTO.mono ?_
 rintro e w8 ⟨u1, v1, q1, rfl, hI1, la⟩
 replace k4 := k4.later la
 replace k5 := k5.later la
 replace k9 := k9.later la
 replace k10 := k10.later la
 replace rH := rH.later la
 replace r0 := r0.later la
 replace L1 := L1.trans la
 clear la HTO
 have ne1 : g4 ≠ g5 := by have := HG.out; omega
 have NE := Lib.hid ne1
 have O1 := Lib.hid (show ((W8.two u1 v1) : Array Value).all (·.oneCell') = true by simp [Value.oneCell'])
 have S16 := Lib.hid zao
 have Z1 := Lib.hid (show ((W8.two W8.zero W8.zero) : Array Value).all (·.oneCell') = true by simp [Value.oneCell'])
 have IS1 := Lib.hid hI1
 have hr1 : q1 = 0 ∨ q1 = 6 := by rcases hI1 with h | h; exact .inl h.2.2.2.2.2.2; exact .inr h.2.2.2
 clear ne1 hI1
 rcases hr1 with rfl | rfl
 ·go_wp2_with (refine zat rfl 40 (.tmp 4) (.tmp 40) (by rfl) (by rfl) g4 (by rfl) (W8.two u1 v1) (by rfl) k4 (by rfl) S16.out O1.out ?_; intro w9 hp9; have j4 := hp9.blk; have j5 := hp9.keep k5 (fun e => NE.out e.symm); have j9 := hp9.keep k9 (by have := HG.out; have := HG8.out; omega); have j10 := hp9.keep k10 (by have := HG.out; have := HG8.out; have := HG10.out; omega); have L9 := hp9.lat w L1 (by have := HG.out; omega); have d0 := j9.cell 0; have d1 := j9.cell 1; have e0 := j10.cell 0; have e1 := j10.cell 1; have rH := rH.put hp9 k4 zm0; have r0 := r0.put hp9 k4 zm0)
  clear k4 k5 k9 k10 L1
  refine (zbW bH AH nH cH (sHi l k) b0 A0 n0 c0 (2 ^ k) w9 rH r0 HP2.out (by have := MH.out; omega) (by have := M0.out; omega)).mono ?_
  rintro e w10 ⟨y1, y2, y3, y4, z1, z2, z3, z4, rfl, ry, my, rz, mz, la⟩
  have HTO := zcL y1 y2 y3 y4 (zaT (sHi l k) (2 ^ k)) z1 z2 z3 z4 (zaU (sHi l k) (2 ^ k)) w10 ry rz (by have := MH.out; have := M0.out; omega) (by have := MH.out; have := M0.out; omega)
  replace j4 := j4.later la
  replace j5 := j5.later la
  replace L9 := L9.trans la
  clear la ry my rz mz j9 j10 d0 d1 e0 e1 rH r0
  go_wp2_with fail
  refine HTO.mono ?_
  rintro e w11 ⟨u2, v2, q2, rfl, hI2, la⟩
  replace j4 := j4.later la
  replace j5 := j5.later la
  replace L9 := L9.trans la
  clear la HTO
  have O2 := Lib.hid (show ((W8.two u2 v2) : Array Value).all (·.oneCell') = true by simp [Value.oneCell'])
  have IS2 := Lib.hid hI2
  have hr2 : q2 = 0 ∨ q2 = 6 := by rcases hI2 with h | h; exact .inl h.2.2.2.2.2.2; exact .inr h.2.2.2
  clear hI2
  rcases hr2 with rfl | rfl
  ·go_upto_region 14 with (refine zat rfl 40 (.tmp 5) (.tmp 52) (by rfl) (by rfl) g5 (by rfl) (W8.two u2 v2) (by rfl) j5 (by rfl) S16.out O2.out ?_; intro wa hpa; have a5 := hpa.blk; have a4 := hpa.keep j4 NE.out; have La := hpa.lat w L9 (by have := HG.out; omega))
   clear hpa j4 j5 L9
   obtain ⟨w1, rfl⟩ : ∃ z, z = wa := ⟨_, rfl⟩
   have j4 := a4
   have j5 := a5
   have L9 := La
   have HOK := Lib.hid (zdw (W0 := w) (g := g4) (h := g5) (u1 := u1) (v1 := v1) (u2 := u2) (v2 := v2) (by have := HG.out; omega) (by have := HG.out; omega) NE.out)
   clear a4 a5 La
   rename_i KN hKN
   refine za3 (zet g4 g5 (W8.two u1 v1) (W8.two u2 v2)) (zgY g4 g5 (W8.two u1 v1) (W8.two u2 v2)) 61 5 [[], [], [0, 0], [1, 2, 0, 1, 2], [3, 0, 1, 2, 3]] (zdu _ _ _ _ _ _) (by kernel_rfl) (by kernel_rfl) (by kernel_rfl) (by kernel_rfl) (by kernel_rfl) (by kernel_rfl) (by rfl) rfl (base_of (by repeat (first | exact base_nil _ | refine zad rfl ?_))) ⟨⟨j4.later (Lat.drew _), j5.later (Lat.drew _)⟩, L9.trans (Lat.drew _)⟩ (zjn w g4 g5 (W8.two u1 v1) (W8.two u2 v2) (HOK.out)) ?_
   intro m9 a9 W9 hall9 hsz9 hdf9 hG9 hbs hsl
   obtain ⟨v9, h9, q9⟩ := hsl 4 _ _ rfl rfl
   obtain rfl := q9
   have w6 := zaa h9
   clear h9
   refine hKN _ _ ?_
   obtain ⟨T9, df9⟩ := a9
   obtain rfl : df9 = [] := hdf9
   obtain ⟨f, hf, rfl⟩ := zf3 T9 hsz9
   have X9 := fun k v h => (hf k).trans (zaa (hbs k v h))
   have x6 := (hf 6).trans w6
   clear hbs hsl hf hsz9 hKN w6
   simp only [X9 4 _ rfl, X9 5 _ rfl, x6]
   clear X9 x6
   obtain ⟨⟨i4, i5⟩, l9⟩ := hG9
   have I4 := Lib.hid i4
   have I5 := Lib.hid i5
   have HL := Lib.hid l9
   clear i4 i5 l9 j4 j5 L9 HOK
   go_wp2
   refine bodyPost_ret (v := .tuple #[.agg (W8.two u1 v1), .agg (W8.two u2 v2), .int .i64 0]) (zdx rfl rfl rfl I4.out I5.out) rfl ?_
   exact ⟨u1, v1, u2, v2, 0, rfl, .inr ⟨HE.out, .inl ⟨rfl, by rw [HB.out]; exact IS1.out, by rw [HB.out]; exact IS2.out⟩⟩, HL.out⟩
  ·go_wp2_with
    (first
      | (refine zat rfl 40 (.tmp 5) (.tmp 52) (by rfl) (by rfl) g5 (by rfl) (W8.two u2 v2) (by rfl) j5 (by rfl) S16.out O2.out ?_; intro wa hpa; have a5 := hpa.blk; have a4 := hpa.keep j4 NE.out; have La := hpa.lat w L9 (by have := HG.out; omega))
      | (refine zat rfl 40 (.tmp 4) (.tmp 56) (by rfl) (by rfl) g4 (by rfl) (W8.two W8.zero W8.zero) (by rfl) a4 (by rfl) S16.out Z1.out ?_; intro wb hpb; have c4 := hpb.blk; have c5 := hpb.keep a5 (fun e => NE.out e.symm); have Lb := hpb.lat w La (by have := HG.out; omega))
      | (refine zat rfl 40 (.tmp 5) (.tmp 57) (by rfl) (by rfl) g5 (by rfl) (W8.two W8.zero W8.zero) (by rfl) c5 (by rfl) S16.out Z1.out ?_; intro wc hpc; have d5 := hpc.blk; have d4 := hpc.keep c4 NE.out; have Lc := hpc.lat w Lb (by have := HG.out; omega)))
   refine bodyPost_ret (v := .tuple #[.agg (W8.two W8.zero W8.zero), .agg (W8.two W8.zero W8.zero), .int .i64 6]) (zdx rfl rfl rfl d4 d5) rfl ?_
   exact ⟨W8.zero, W8.zero, W8.zero, W8.zero, 6, rfl, .inr ⟨HE.out, .inr ⟨rfl, rfl, rfl, rfl, rfl, by rw [HB.out]; exact .inr ⟨_, _, IS2.out⟩⟩⟩, Lc⟩
 ·go_wp2_with
   (first
     | (refine zat rfl 40 (.tmp 4) (.tmp 40) (by rfl) (by rfl) g4 (by rfl) (W8.two u1 v1) (by rfl) k4 (by rfl) S16.out O1.out ?_; intro wa hpa; have a4 := hpa.blk; have a5 := hpa.keep k5 (fun e => NE.out e.symm); have La := hpa.lat w L1 (by have := HG.out; omega))
     | (refine zat rfl 40 (.tmp 4) (.tmp 44) (by rfl) (by rfl) g4 (by rfl) (W8.two W8.zero W8.zero) (by rfl) a4 (by rfl) S16.out Z1.out ?_; intro wb hpb; have c4 := hpb.blk; have c5 := hpb.keep a5 (fun e => NE.out e.symm); have Lb := hpb.lat w La (by have := HG.out; omega))
     | (refine zat rfl 40 (.tmp 5) (.tmp 45) (by rfl) (by rfl) g5 (by rfl) (W8.two W8.zero W8.zero) (by rfl) c5 (by rfl) S16.out Z1.out ?_; intro wc hpc; have d5 := hpc.blk; have d4 := hpc.keep c4 NE.out; have Lc := hpc.lat w Lb (by have := HG.out; omega)))
  refine bodyPost_ret (v := .tuple #[.agg (W8.two W8.zero W8.zero), .agg (W8.two W8.zero W8.zero), .int .i64 6]) (zdx rfl rfl rfl d4 d5) rfl ?_
  exact ⟨W8.zero, W8.zero, W8.zero, W8.zero, 6, rfl, .inr ⟨HE.out, .inr ⟨rfl, rfl, rfl, rfl, rfl, by rw [HB.out]; exact .inl ⟨_, _, IS1.out⟩⟩⟩, Lc⟩
theorem zkZ (A : Option Addr) (n c : Nat) (l : List (Int × Int)) (b : Int) (w : World) (hs : RowM w A 2 n (zab l)) (hn : n ≤ 1000000) :
  Calls Tryz.prog 9 #[.slice A n c, .int .i64 b] w (zcb w l b) := by
 by_cases hv : ValidR l
 ·by_cases hb : b < 0 ∨ 400 < b
  ·exact znE A n c l b w hs hn hv hb
  ·obtain ⟨k, rfl⟩ := Int.eq_ofNat_of_zero_le (show 0 ≤ b by omega)
   exact zov A n c l k w hs hv (by omega)
 ·exact znD A n c l b w hs hn hv
theorem zeu {P : Program} (w : World) (t ti ty e : TypeId) (i : TypeInfo) (z : Value) (ht : P.underlying t = some (.slice e)) (hti : P.underlying ti = some (.int .i64)) (hi : P.info? e = some i) (hz : i.zero = some z) (hz0 : 0 < i.size)
  (n : Nat) (h0 : 0 < n) (h63 : n ≤ 1000000) (hb : i.bytes ≤ 1000) :
  (Builtin.append_ #[t, ti] ty #[.slice none 0 0, .int .i64 n]).run P w =
    .ok (.slice (some ⟨w.heap.size, 0, none⟩) n (grownCap w n 0 e)) (w.drew.alloc (.cells (Builtin.zeroCells z.cells n ++ Builtin.zeroCells z.cells (grownCap w n 0 e - n)) e)) := by
 have hn : n ≠ 0 := by omega
 have hm : n * i.bytes ≤ 1000000 * 1000 := Nat.mul_le_mul h63 hb
 have hm2 : ((n * i.bytes : Nat) : Int) = (n : Int) * (i.bytes : Int) := by simp
 have h48' : ¬ (281474976710656 < Builtin.nextslicecap n 0 * i.bytes) := by rw [nextslicecap_zero h0]; omega
 have hneg : ¬ ((n : Int) < 0) := by omega
 have hw : IntKind.i64.wrap (n : Int) = (n : Int) := by rw [IntWalk.i64_left]; exact IntWalk.wrap64_in _ (by omega)
 have hlen : ¬ (281474976710656 < (n : Int) * (i.bytes : Int)) := by omega
 have h63' : ¬ (9223372036854775807 < (n : Int)) := by omega
 have hs0 : i.size ≠ 0 := by omega
 simp [Builtin.append_, run_underlying ht, run_underlying hti, sizeOf, typeInfo, zeroValue, hi, hz, Builtin.lenOf, hn, h63', h48', Question.forced, run_firstCells_none, newRow, grownCap, asInt, asIntOf, hw, hneg, hlen, hs0]
 intro hc
 exact absurd hc (Nat.mul_ne_zero hn hs0)
theorem zhF {P : Program} {ops : Array Oper} {rest : List Oper} {o : Oper} {a : Act} {Q : Exit → Act → World → Prop} (hgd : o.guard = none) (s x : Operand) (t ti : TypeId)
  (ho : o.op = .call { callee := .builtin .append, args := #[s, x], argTypes := #[t, ti] })
  (E : TypeId) (z : Value) (m by_ : Nat) (ht : P.underlying t = some (.slice E)) (hti : P.underlying ti = some (.int .i64)) (hinfo : (P.info? E).map (fun i => (i.zero, i.size, i.bytes)) = some (some z, m, by_)) (hz : z.cells.size = m) (hm : 0 < m) (hby : by_ ≤ 1000)
  (n : Nat) (h0 : 0 < n) (hn : n ≤ 1000000) (w : World) (hs : a.eval s = .slice none 0 0) (hx : a.eval x = .int .i64 n)
  (h : ∀ cap cur, n ≤ cap → cap ≤ maxLen → cur.size = cap * m → wpList P ops Q rest (a.put o.dst (.slice (some ⟨w.heap.size, 0, none⟩) n cap)) (w.drew.alloc (.cells cur E))) : wpList P ops Q (o :: rest) a w := by
 obtain ⟨i0, hi, hz0, hz1, hz2⟩ := info_parts hinfo
 refine wpList_plain hgd fun K hK => ?_
 have hrun := zeu (P := P) w t ti o.type E i0 z ht hti hi hz0 (by omega) n h0 hn (by omega)
 unfold Oper.wp
 simp only [execOp, ho, resolve, invoke, builtin, Sem.run_bind, Sem.run_pure, Result.andThen_ok, List.map_toArray, List.map_cons, List.map_nil, hs, hx, hrun]
 refine hK _ _ (h _ _ (grownCap_ge w n 0 E) (grownCap_le_maxLen w n 0 E (by unfold maxLen; omega)) ?_)
 simp only [Array.size_append, size_zeroCells, hz, ← Nat.add_mul]
 congr 1
 have := grownCap_ge w n 0 E
 omega
theorem zbN {P : Program} {ops : Array Oper} {rest : List Oper} {o : Oper} {a : Act} {Q : Exit → Act → World → Prop} (hgd : o.guard = none) (s x : Operand) (t : TypeId)
  (ho : o.op = .call { callee := .builtin .append, args := #[s, x], argTypes := #[t, t] })
  (B : Nat) (E : TypeId) (z : Value) (m by_ : Nat) (ht : P.underlying t = some (.slice E)) (hinfo : (P.info? E).map (fun i => (i.zero, i.size, i.bytes)) = some (some z, m, by_)) (hz : z.cells.size = m) (hm : 0 < m) (hby : by_ ≤ 1000)
  (v : Value) (os xs : List (List Value)) (h1 : ∀ l ∈ xs, ∀ u ∈ l, u.oneCell' = true) (w : World) (hs : a.eval s = v) (hown : OwnM w B E m v os)
  (A : Option Addr) (n c : Nat) (hx : a.eval x = .slice A n c) (hxs : RowM w A m n xs) (hlen : os.length + n ≤ 100000000) (hB : B ≤ w.heap.size)
  (h : ∀ v' w', OwnM w' B E m v' (os ++ xs) → w.grownBy w' v.ownBlock → (∀ W0, Lat W0 w → W0.heap.size ≤ B → Lat W0 w') → wpList P ops Q rest (a.put o.dst v') w') : wpList P ops Q (o :: rest) a w := by
 obtain ⟨i0, hi, hz0, hz1, hz2⟩ := info_parts hinfo
 have hl := hxs.1
 cases A with
 | none =>
   obtain rfl : n = 0 := by
    rcases Nat.eq_zero_or_pos n with h0 | h0
    ·exact h0
    ·obtain ⟨g, o', e, _⟩ := hxs.2.2 h0
     cases e
   have : xs = [] := List.eq_nil_of_length_eq_zero hl
   subst this
   refine wpList_plain hgd fun K hK => ?_
   have hrun := zdD (P := P) (w := w) B t o.type E i0 m ht hi v os.length _ hown.2 c
   unfold Oper.wp
   simp [execOp, ho, resolve, invoke, builtin, hs, hx, hrun, Result.andThen]
   exact hK _ _ (h v w (by rw [List.append_nil]; exact hown) ⟨rfl, rfl, rfl, Nat.le_refl _, fun _ _ _ => rfl⟩ (fun W0 hl _ => hl))
 | some ad =>
   have hfl := zem hxs.2.1
   refine wpList_append_own _ hgd s x t ho B E i0 z m by_ ht hi hz0 hz1 hz2 hz hm v os.length _ hs hown.2 ad n c xs.flatten hx (by rw [hfl, hl]) ?_ ?_ ?_ ?_ hB ?_
   ·intro j u hu
    have hj : j < n * m := by
     have := (List.getElem?_eq_some_iff.1 hu).1
     rw [hfl, hl] at this
     exact this
    have hnp : 0 < n := by
     rcases Nat.eq_zero_or_pos n with h0 | h0
     ·rw [h0, Nat.zero_mul] at hj; omega
     ·exact h0
    obtain ⟨g, of, e, _, hc⟩ := hxs.2.2 hnp
    cases e
    have hi2 : j / m < xs.length := by rw [hl]; exact Nat.div_lt_of_lt_mul (by rw [Nat.mul_comm]; exact hj)
    have hxi := List.getElem?_eq_getElem hi2
    have hrem : j % m < m := Nat.mod_lt _ hm
    have hxl : (xs[j / m]).length = m := hxs.2.1 _ (List.getElem_mem hi2)
    have hv := List.getElem?_eq_getElem (l := xs[j / m]) (i := j % m) (by omega)
    have hg := flat_get hxs.2.1 hxi hv
    have hj2 : j / m * m + j % m = j := by rw [Nat.mul_comm]; exact Nat.div_add_mod j m
    rw [hj2, hu] at hg
    cases hg
    have hcell := hc (j / m) _ hxi (j % m) _ hv
    have e : (⟨g, of, none⟩ : Addr).add j = ⟨g, of + j / m * m + j % m, none⟩ := by
     rw [Nat.add_assoc, hj2]
     unfold Addr.add
     split <;> simp_all
    rw [e]
    exact hcell
   ·intro u hu
    obtain ⟨l, hl1, hl2⟩ := List.mem_flatten.1 hu
    exact h1 l hl1 u hl2
   ·unfold maxLen; omega
   ·have := Nat.mul_le_mul_left (os.length + n) hby; omega
   ·intro v' w' h2 h3 _
    refine h v' w' ⟨fun y hy => ?_, ?_⟩ h3 (fun W0 hl hle => hown.lat hl hle h3)
    ·rcases List.mem_append.1 hy with hy | hy
     ·exact hown.1 y hy
     ·exact hxs.2.1 y hy
    ·rw [List.length_append, List.flatten_append, hl]
     exact h2
theorem OwnM.lowT {w : World} {B B2 m : Nat} {E : TypeId} {v : Value} {l : List (List Value)} (h : OwnM w B E m v l) (hB : B2 ≤ B) : OwnM w B2 E m v l := by
 refine ⟨h.1, ?_⟩
 obtain ⟨h0, h1 | ⟨b, c, cur, e, hb, r⟩⟩ := h.2
 ·exact ⟨h0, .inl h1⟩
 ·exact ⟨h0, .inr ⟨b, c, cur, e, Nat.le_trans hB hb, r⟩⟩
theorem OwnM.fresh {w : World} {B m cap : Nat} {E : TypeId} {cur : Array Value} (hB : B ≤ w.heap.size) (hc : cap ≤ maxLen) (hs : cur.size = cap * m) : OwnM (w.drew.alloc (.cells cur E)) B E m (.slice (some ⟨w.heap.size, 0, none⟩) 0 cap) [] :=
 ⟨fun x h => by simp at h, by simp, .inr ⟨w.heap.size, cap, cur, rfl, hB, heap_alloc_new w.drew _, Nat.zero_le _, hc, hs, by simp⟩⟩
theorem zml (n : Nat) (hn : n ≤ 1000000) (w : World) : Calls Tryz.prog 107 #[.slice none 0 0, .int .i64 n] w (fun e w' => ∃ v, e = .returned v ∧ OwnM w' w.heap.size 72 2 v [] ∧ Lat w w') := by
 rcases Nat.eq_zero_or_pos n with rfl | h0
 ·go_enter Tryz.func107, Tryz.ntmps107
  go_wp2
  go_ret
  exact ⟨_, rfl, OwnM.nil _ _ _ _, Lat.refl _⟩
 ·have hI : (0 : Int) < (n : Int) := by omega
  have hN : ¬ ((n : Int) < 0) := by omega
  go_enter Tryz.func107, Tryz.ntmps107
  go_wp2_with (at_builtin; refine zhF rfl _ _ 27 3 (by rfl) 72 (.agg #[.int .i64 0, .int .i64 0]) 2 16 Tryz.underlying27 Tryz.underlying3 zaS rfl (by decide) (by decide) n h0 hn w (by rfl) (by rfl) ?_; intro cap cur hcap hmax hcur)
  go_ret
  exact ⟨_, rfl, OwnM.fresh (Nat.le_refl _) hmax hcur, (Lat.drew w).trans (Lat.alloc _ _)⟩
def catR (r0 r1 : List (List Value)) : Nat → List (List Value)
 | 0 => []
 | 1 => r0
 | _ => r0 ++ r1
def zm1 (n0 n1 : Nat) : Nat → Nat
 | 0 => 0
 | 1 => n0
 | _ => n0 + n1
theorem zjo (A0 A1 : Option Addr) (n0 c0 n1 c1 c gb : Nat) (r0 r1 : List (List Value)) (ho0 : ∀ l ∈ r0, ∀ u ∈ l, u.oneCell' = true) (ho1 : ∀ l ∈ r1, ∀ u ∈ l, u.oneCell' = true) (hn0 : n0 ≤ 100000) (hn1 : n1 ≤ 100000) (w : World)
  (hb : Blk w gb 27 #[.slice A0 n0 c0, .slice A1 n1 c1]) (h0 : RowM w A0 2 n0 r0) (h1 : RowM w A1 2 n1 r1) :
  Calls Tryz.prog 66 #[.slice (some ⟨gb, 0, none⟩) 2 c] w (fun e w' => ∃ v, e = .returned v ∧ OwnM w' w.heap.size 72 2 v (r0 ++ r1) ∧ Lat w w') := by
 have HO0 := Lib.hid ho0
 have HO1 := Lib.hid ho1
 have HR0 := Lib.hid h0
 have HR1 := Lib.hid h1
 have hl0 := h0.1
 have hl1 := h1.1
 clear ho0 ho1 h0 h1
 go_enter Tryz.func66, Tryz.ntmps66
 go_upto_region 3 with (fail)
 go_loopw [3, 5, 11] (fun sv _ i wr => ∃ j : Nat, j ≤ 2 ∧ i = .int .i64 j ∧ sv = .int .i64 (zm1 n0 n1 j : Nat) ∧ Lat w wr) (fun _ _ i _ => 2 - (RowKit.intOf i).toNat)
 case atStart => exact ⟨0, by omega, rfl, rfl, Lat.refl _⟩
 case round =>
  obtain ⟨j, hj, rfl, rfl, hlr⟩ := hrel
  have B := hb.later hlr
  have k0 := B.cell 0
  have k1 := B.cell 1
  rcases (show j = 0 ∨ j = 1 ∨ j = 2 by omega) with rfl | rfl | rfl
  ·have f1 : wrap64 (((zm1 n0 n1 0 : Nat) : Int) + (n0 : Int)) = ((zm1 n0 n1 1 : Nat) : Int) := by show wrap64 (((0 : Nat) : Int) + n0) = n0; rw [IntWalk.wrap64_in _ (by omega)]; omega
   have f2 : ¬ (((zm1 n0 n1 1 : Nat) : Int) < 0) := by omega
   go_wp2
   go_roundw
   case rel => exact ⟨1, by omega, rfl, by rw [f1], hlr⟩
   case measure => simp [RowKit.intOf]
  ·have f1 : wrap64 (((zm1 n0 n1 1 : Nat) : Int) + (n1 : Int)) = ((zm1 n0 n1 2 : Nat) : Int) := by show wrap64 ((n0 : Int) + n1) = ((n0 + n1 : Nat) : Int); rw [IntWalk.wrap64_in _ (by omega)]; omega
   have f2 : ¬ (((zm1 n0 n1 2 : Nat) : Int) < 0) := by omega
   go_wp2
   go_roundw
   case rel => exact ⟨2, by omega, rfl, by rw [f1], hlr⟩
   case measure => simp [RowKit.intOf]
  ·clear k0 k1 B
   have HG := zml (zm1 n0 n1 2) (by show n0 + n1 ≤ 1000000; omega) wr
   go_wp2_with fail
   refine HG.mono ?_
   rintro e W ⟨v, rfl, O, hlW⟩
   have O0 : OwnM W w.heap.size 72 2 v (catR r0 r1 0) := O.lowT hlr.size
   have L0 := hlr.trans hlW
   clear O HG hlr hlW
   go_upto_region 11 with (fail)
   go_loopw [6, 8, 27] (fun ov _ i wr => ∃ j : Nat, j ≤ 2 ∧ i = .int .i64 j ∧ OwnM wr w.heap.size 72 2 ov (catR r0 r1 j) ∧ Lat w wr) (fun _ _ i _ => 2 - (RowKit.intOf i).toNat)
   case atStart => exact ⟨0, by omega, rfl, O0, L0⟩
   case round =>
    clear O0 L0
    obtain ⟨j, hj, rfl, O, hlr⟩ := hrel
    have B := hb.later hlr
    have k0 := B.cell 0
    have k1 := B.cell 1
    have hsz := hlr.size
    rcases (show j = 0 ∨ j = 1 ∨ j = 2 by omega) with rfl | rfl | rfl
    ·have R0 := HR0.out.later hlr
     go_wp2_with (at_builtin; refine zbN rfl _ _ 27 (by rfl) w.heap.size 72 (.agg #[.int .i64 0, .int .i64 0]) 2 16 Tryz.underlying27 zaS rfl (by decide) (by decide) _ _ r0 HO0.out _ (by rfl) O A0 n0 c0 (by rfl) R0 (by show 0 + n0 ≤ _; omega) hsz ?_; intro v' w' h1 h2 h3)
     have L4 := h3 _ hlr (Nat.le_refl _)
     go_roundw
     case rel => exact ⟨1, by omega, rfl, h1, L4⟩
     case measure => simp [RowKit.intOf]
    ·have R1 := HR1.out.later hlr
     go_wp2_with (at_builtin; refine zbN rfl _ _ 27 (by rfl) w.heap.size 72 (.agg #[.int .i64 0, .int .i64 0]) 2 16 Tryz.underlying27 zaS rfl (by decide) (by decide) _ _ r1 HO1.out _ (by rfl) O A1 n1 c1 (by rfl) R1 (by show r0.length + n1 ≤ _; omega) hsz ?_; intro v' w' h1 h2 h3)
     have L4 := h3 _ hlr (Nat.le_refl _)
     go_roundw
     case rel => exact ⟨2, by omega, rfl, h1, L4⟩
     case measure => simp [RowKit.intOf]
    ·go_wp2
     go_ret
     exact ⟨_, rfl, O, hlr⟩
end Go.Proofs.YtpmbglhbcjbkcaaGreat
