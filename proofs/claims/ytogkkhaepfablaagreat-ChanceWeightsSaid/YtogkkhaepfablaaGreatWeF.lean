
/- Chance: the law of weights, joined. -/
import Derived.Test.YtogkkhaepfablaaGreatWeE
import Derived.Test.YtogkkhaepfablaaGreatWeB
import Derived.Test.YtogkkhaepfablaaGreatCwD
namespace Go.Proofs.YtogkkhaepfablaaGreat
open Go.RowKit Go.Shelf
set_option linter.unusedSimpArgs false

theorem chTryD_ltF {k : Nat} {ok : Int → Bool} : ∀ {f s : Nat} {p : Int × Nat}, s < 18446744073709551616 → chTry (chDraw k) ok f s = some p → p.2 < 18446744073709551616
  | 0, s, p, _, h => by rw [chTry] at h; exact absurd h (by simp)
  | f + 1, s, p, hs, h => by
    rw [chTry] at h
    by_cases hk : ok (chDraw k s).1 = true
    · rw [if_pos hk, Option.some.injEq] at h
      rw [← h]
      exact chSt_lt _ s hs
    · rw [if_neg hk] at h; exact chTryD_ltF (chSt_lt _ s hs) h
theorem wid_ltF {s : Nat} (hs : s < 18446744073709551616) (N : Int) : widS s N < 18446744073709551616 := by
  unfold widS
  split
  · decide
  · unfold chWid
    split
    · rw [optT]; exact hs
    · cases h : chTry (chDraw (blen (N - 1))) (fun x => decide (x < N)) 200 s with
      | none => rw [optT]; decide
      | some p => rw [optT]; exact chTryD_ltF hs h
theorem chance_sameF (t : Nat) (ht : t < 18446744073709551616) (w : World) : (Op.equalIn 10000 24 (.agg #[.int .u64 (t : Nat)]) (.agg #[.int .u64 (t : Nat)])).run Tryz.prog w = .ok true w := by
  have h := chance_in (s := (t : Int)) (t := (t : Int)) ⟨by omega, by unfold W64; omega⟩ ⟨by omega, by unfold W64; omega⟩ w
  rwa [decide_eq_true rfl] at h
theorem pickIs_nat {s : Nat} {ns : List Int} {k : Int} {t : Nat} {en : Int} (hs : s < 18446744073709551616) (h : PickIs s ns k t en) : (∃ K : Nat, k = (K : Int)) ∧ t < 18446744073709551616 := by
  rcases h with ⟨_, rfl, rfl, _⟩ | ⟨_, _, rfl, rfl, _⟩ | ⟨_, _, _, rfl, K, rfl, _⟩
  · exact ⟨⟨0, rfl⟩, by decide⟩
  · exact ⟨⟨0, rfl⟩, by decide⟩
  · exact ⟨⟨K, rfl⟩, wid_ltF hs _⟩
theorem sub_fit (N D : Int) (hf : ShFit N D) (h0 : 0 ≤ N) (h1 : N ≤ D) (w : World) : Calls Tryz.prog 20 #[.agg #[.int .u64 (W8.of D).a0, .int .u64 (W8.of D).a1, .int .u64 (W8.of D).a2, .int .u64 (W8.of D).a3, .int .u64 (W8.of D).a4, .int .u64 (W8.of D).a5, .int .u64 (W8.of D).a6, .int .u64 (W8.of D).a7], .agg #[.int .u64 (W8.of N).a0, .int .u64 (W8.of N).a1, .int .u64 (W8.of N).a2, .int .u64 (W8.of N).a3, .int .u64 (W8.of N).a4, .int .u64 (W8.of N).a5, .int .u64 (W8.of N).a6, .int .u64 (W8.of N).a7]] w (fun e w' => e = .returned (.tuple #[.agg #[.int .u64 (W8.of (D - N)).a0, .int .u64 (W8.of (D - N)).a1, .int .u64 (W8.of (D - N)).a2, .int .u64 (W8.of (D - N)).a3, .int .u64 (W8.of (D - N)).a4, .int .u64 (W8.of (D - N)).a5, .int .u64 (W8.of (D - N)).a6, .int .u64 (W8.of (D - N)).a7], .int .i64 0]) ∧ Lat w w') := by
  have hP := P511_pos
  have h := wSub_any (W8.of D) (W8.of N) (W8.of_ok D) (W8.of_ok N) w
  rw [W8.of_toInt (by omega) hf.d2, W8.of_toInt hf.n1 hf.n2] at h
  refine h.mono ?_
  rintro e w' ⟨u, r, rfl, ⟨_, _, rfl, rfl⟩ | ⟨hb, _⟩, hl⟩
  · exact ⟨rfl, hl⟩
  · have := hf.d2
    omega
theorem coin_two (s : Nat) (hs : s < 18446744073709551616) (N D : Int) (hf : ShFit N D) (h0 : 0 ≤ N) (h1 : N ≤ D) :
    ∃ (ub : Bool) (tb : Nat) (eb : Int) (tp : Nat) (ep : Int) (kp : Nat), ((eb = 9 ∧ ep = 9) ∨ (eb = 0 ∧ ep = 0 ∧ tb = tp ∧ ub = decide (((kp : Nat) : Int) = 0) ∧ ∀ w, (Op.equalIn 10000 24 (.agg #[.int .u64 (tp : Nat)]) (.agg #[.int .u64 (tp : Nat)])).run Tryz.prog w = .ok true w)) ∧ (∀ w, Calls Tryz.prog 21 #[.agg #[.int .u64 s], .agg #[.int .u64 (W8.of N).a0, .int .u64 (W8.of N).a1, .int .u64 (W8.of N).a2, .int .u64 (W8.of N).a3, .int .u64 (W8.of N).a4, .int .u64 (W8.of N).a5, .int .u64 (W8.of N).a6, .int .u64 (W8.of N).a7, .int .u64 (W8.of D).a0, .int .u64 (W8.of D).a1, .int .u64 (W8.of D).a2, .int .u64 (W8.of D).a3, .int .u64 (W8.of D).a4, .int .u64 (W8.of D).a5, .int .u64 (W8.of D).a6, .int .u64 (W8.of D).a7]] w (CoinEnd w ub tb eb)) ∧ (∀ (g c : Nat) (w : World), Blk w g 26 #[.int .u64 (W8.of N).a0, .int .u64 (W8.of N).a1, .int .u64 (W8.of N).a2, .int .u64 (W8.of N).a3, .int .u64 (W8.of N).a4, .int .u64 (W8.of N).a5, .int .u64 (W8.of N).a6, .int .u64 (W8.of N).a7, .int .u64 (W8.of (D - N)).a0, .int .u64 (W8.of (D - N)).a1, .int .u64 (W8.of (D - N)).a2, .int .u64 (W8.of (D - N)).a3, .int .u64 (W8.of (D - N)).a4, .int .u64 (W8.of (D - N)).a5, .int .u64 (W8.of (D - N)).a6, .int .u64 (W8.of (D - N)).a7] → Calls Tryz.prog 16 #[.agg #[.int .u64 s], .slice (some ⟨g, 0, none⟩) 2 c] w (PickEnd w (kp : Nat) tp ep)) := by
  have hP := P511_pos
  obtain ⟨ub, tb, eb, HCI, HC⟩ := coin_nn s hs N D hf h0 h1
  have hsum : [N, D - N].sum = D := by simp; omega
  obtain ⟨kp, tp, ep, HPI, HP⟩ := pick_nn s hs [N, D - N] (fun x hx => by
    rcases List.mem_cons.1 hx with rfl | hx
    · exact h0
    · rcases List.mem_cons.1 hx with rfl | hx
      · omega
      · cases hx) (by simp) (by rw [hsum]; exact hf.d2)
  obtain ⟨⟨K, rfl⟩, ht⟩ := pickIs_nat hs HPI
  refine ⟨ub, tb, eb, tp, ep, K, ?_, HC, fun g c w hb => ?_⟩
  · rcases coin_pick hf.ok.1 HCI HPI with h | ⟨e1, e2, e3, e4⟩
    · exact .inl h
    · exact .inr ⟨e1, e2, e3, e4, chance_sameF tp ht⟩
  · exact HP (some ⟨g, 0, none⟩) c w (fun h => absurd h (by simp)) (rowM_blk (ws := [W8.of N, W8.of (D - N)]) hb)
theorem cWeights_any (s : Int) (A0 : Option Addr) (n0 c0 : Nat) (xs : List Int) (b1 b2 : Bool) (A1 A2 : Option Addr) (n1 c1 n2 c2 : Nat) (l1 l2 : Int) (w : World) (hs0 : 0 ≤ s ∧ s < 18446744073709551616)
    (h0 : Sl w .u16 A0 n0 xs) (hc : n0 ≤ c0) (hx' : ∀ x ∈ xs, 0 ≤ x ∧ x ≤ 65535) (h1 : DrIn w A1 n1 l1) (h2 : DrIn w A2 n2 l2) :
    Calls Tryz.prog 4 #[.agg #[.int .u64 s], .slice A0 n0 c0, .agg #[.bool b1, .slice A1 n1 c1, .int .u32 l1, .bool b2, .slice A2 n2 c2, .int .u32 l2] ] w (fun e w' => e = .returned (.bool true) ∧ Lat w w') := by
  obtain ⟨s, rfl⟩ := Int.eq_ofNat_of_zero_le hs0.1
  have hs : s < 18446744073709551616 := Int.ofNat_lt.1 hs0.2
  have hP : (9223372036854775808 : Int) ≤ P511 := by decide
  have hlen : xs.length = n0 := h0.1
  obtain ⟨m, hm⟩ : ∃ m, min n0 12 = m := ⟨_, rfl⟩
  have hmn : m ≤ n0 := by omega
  have hm12 : m ≤ 12 := by omega
  have hmin : min ((n0 : Nat) : Int) 12 = (m : Int) := by omega
  have hl : (xs.take m).length = m := by rw [List.length_take]; omega
  have hns : ∀ x ∈ xs.take m, 0 ≤ x ∧ x ≤ 65535 := fun x h => hx' x (List.mem_of_mem_take h)
  have hcap := preS_cap hns (xs.take m).length
  rw [preS_all, hl] at hcap
  have hpos := (preS_top (fun x h => (hns x h).1) 0)
  rw [preS_zero] at hpos
  obtain ⟨k, t, en, HPI, HPK⟩ := pick_nn s hs (xs.take m) (fun x h => (hns x h).1) (by omega) (by omega)
  obtain ⟨⟨K, rfl⟩, ht⟩ := pickIs_nat hs HPI
  rw [hl] at HPK
  refine cWeights_from works_any s A0 n0 c0 xs b1 b2 A1 A2 n1 c1 n2 c2 l1 l2 w h1 h2 h0 hx' hc m hmn hm12 hmin (fun z z0 z1 w => of_any z (by omega) (by omega) w) K t en
    (fun w d1 d2 => rUnit_any b1 b2 A1 A2 n1 c1 n2 c2 l1 l2 w d1 d2) sub_fit (coin_two s hs) HPI (chance_sameF t ht)
    (W8.of (xs.take m).sum) (W8.of (widV s (xs.take m).sum)) (widS s (xs.take m).sum) (widE s (xs.take m).sum) (widV s (xs.take m).sum)
    (fun w => of_any _ (by omega) (by omega) w) ⟨wide_ws s hs _ (by omega) (by omega), rfl, fun hz => ?_⟩ HPK
  rcases Int.lt_or_le (xs.take m).sum 1 with hlt | hge
  · unfold widE at hz
    rw [if_pos hlt] at hz
    exact absurd hz (by decide)
  · rcases wid_in (s := s) (n := (xs.take m).sum) hge with he | ⟨_, v0, v1⟩
    · rw [he] at hz; exact absurd hz (by decide)
    · exact ⟨rfl, rfl, v0, v1, fun w => wInt_fit _ v0 (by omega) w⟩
end Go.Proofs.YtogkkhaepfablaaGreat
