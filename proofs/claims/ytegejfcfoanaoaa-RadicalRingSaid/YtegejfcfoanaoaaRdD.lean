
/- Radical's draft: of at most six terms. -/
import Derived.Test.YtegejfcfoanaoaaRdQ
namespace Go.Proofs.Ytegejfcfoanaoaa
open Go.RowKit Go.Maps
set_option linter.unusedSimpArgs false
set_option linter.unusedVariables false
set_option maxRecDepth 100000

def dRow (x : Int × Int) : List Value := [.int .i16 x.1, .int .i16 x.2]
def dAbs (z : Int) : Int := if z < 0 then -z else z
def dT (x : Int × Int) : Int × Int := (x.1.tmod 100, (dAbs x.2).tmod 300)
def In16 (x : Int × Int) : Prop := -32768 ≤ x.1 ∧ x.1 ≤ 32767 ∧ -32768 ≤ x.2 ∧ x.2 ≤ 32767
def draftL (m : Nat) (ds : List (Int × Int)) : List (Int × Int) := (ds.take m).map dT
theorem tmod_lt (z m : Int) (hm : 0 < m) : -(m - 1) ≤ z.tmod m ∧ z.tmod m ≤ m - 1 := by
  have h1 := Int.tmod_lt_of_pos z hm
  have h2 := Int.lt_tmod_of_pos z hm
  omega
theorem dT_in (x : Int × Int) : -99 ≤ (dT x).1 ∧ (dT x).1 ≤ 99 ∧ 0 ≤ (dT x).2 ∧ (dT x).2 < 300 := by
  have h1 := tmod_lt x.1 100 (by decide)
  have h2 := tmod_lt (dAbs x.2) 300 (by decide)
  have h3 : 0 ≤ (dAbs x.2).tmod 300 := Int.tmod_nonneg _ (by unfold dAbs; split <;> omega)
  unfold dT
  simp only
  omega
theorem draft_err {m : Nat} (hm : m ≤ 6) (ds : List (Int × Int)) : makeErr (draftL m ds) = 0 := by
  refine (draft_make ?_ ?_).1
  · unfold draftL; rw [List.length_map, List.length_take]; omega
  · intro x hx
    obtain ⟨y, _, rfl⟩ := List.mem_map.1 hx
    exact dT_in y
theorem dRow_at {w : World} {A : Option Addr} {n k : Nat} {ds : List (Int × Int)} (h : RowM w A 2 n (ds.map dRow)) (hk : k < n) : ∃ g o x, A = some ⟨g, o, none⟩ ∧ g < w.heap.size ∧ ds[k]? = some x ∧ w.cell? ⟨g, o + k * 2, none⟩ = some (.int .i16 x.1) ∧ w.cell? ⟨g, o + k * 2 + 1, none⟩ = some (.int .i16 x.2) := by
  obtain ⟨g, o, y, hA, hg, hy, _, hc⟩ := h.at hk
  have hl : k < ds.length := by have := h.1; rw [List.length_map] at this; omega
  rw [List.getElem?_map, List.getElem?_eq_getElem hl] at hy
  cases hy
  exact ⟨g, o, _, hA, hg, List.getElem?_eq_getElem hl, by simpa using hc 0 _ rfl, by simpa using hc 1 _ rfl⟩
def SomePost (w : World) (m : Nat) (ds : List (Int × Int)) (e : Ending) (w' : World) : Prop :=
  ∃ v, e = .returned v ∧ OwnM w' w.heap.size 40 2 v (tRows (makeL (draftL m ds))) ∧ Lat w w'
set_option maxHeartbeats 8000000 in
theorem some_any (A : Option Addr) (n c : Nat) (ds : List (Int × Int)) (m : Nat) (w : World) (hs : RowM w A 2 n (ds.map dRow)) (h16 : ∀ x ∈ ds, In16 x) (hm : m ≤ 6) :
    Calls Try.prog 10 #[.agg #[.slice A n c], .int .i64 (m : Nat)] w (SomePost w m ds) := by
  have HS := Lib.hid hs
  have H16 := Lib.hid h16
  have HM := Lib.hid hm
  have HLD : Hid (ds.length = n) := by have := hs.1; rw [List.length_map] at this; exact this
  clear hs h16 hm
  go_enter Try.func10, Try.ntmps10
  go_upto_region 1 with (fail)
  refine name1 (Q := fun W => Code.wp _ _ _ _ W) ?_
  intro W1 l1 s1 k5
  obtain ⟨g5, hg5⟩ : ∃ z, w.heap.size = z := ⟨_, rfl⟩
  rw [hg5] at k5 s1 ⊢
  have HG5 := Lib.hid hg5
  have L1 := Lib.hid l1
  clear hg5 l1
  go_wp2
  go_loopw [5, 6] (fun lv iv wr => ∃ k : Nat, k ≤ n ∧ k ≤ m ∧ iv = .int .i64 (k : Nat) ∧ OwnM wr W1.heap.size 40 2 lv (tRows (draftL k ds)) ∧ Lat W1 wr) (fun _ iv _ => m - (RowKit.intOf iv).toNat)
  case atStart => exact ⟨0, Nat.zero_le _, Nat.zero_le _, rfl, by simpa [draftL, tRows] using OwnM.nil _ _ _ _, Lat.refl _⟩
  case round =>
    obtain ⟨k, hk, hkm6, rfl, hown, hl⟩ := hrel
    have k6 := k5.later hl
    have d0 := k6.cell 0
    have hsz := hl.size
    by_cases hkn : k < n
    · by_cases hkm : k < m
      · obtain ⟨g, o, x, rfl, hg, hx, c0, c1⟩ := dRow_at (HS.out.later (L1.out.trans hl)) hkn
        have hx16 := H16.out x (List.mem_of_getElem? hx)
        have hdt : Hid (tRows (draftL (k + 1) ds) = tRows (draftL k ds) ++ [[.int .i64 (dT x).1, .int .i64 (dT x).2]]) := by
          show _ = _
          obtain ⟨h1, h2⟩ := List.getElem?_eq_some_iff.1 hx
          unfold draftL
          rw [List.take_succ_eq_append_getElem h1, h2]
          simp [tRows, tRow]
        obtain ⟨a1, a2, a3, a4⟩ := hx16
        obtain ⟨t, u⟩ := x
        simp only at c0 c1 a1 a2 a3 a4
        unfold dT at hdt
        simp only at hdt
        have hkI : (k : Int) < (n : Int) := by omega
        have hkI2 : (k : Int) < (m : Int) := by omega
        have hk0 : (0 : Int) ≤ (k : Int) := by omega
        have hk3 := HM.out
        have hk3b : (k : Int) < 6 := by omega
        have HK : Hid (k + 1 ≤ n ∧ k + 1 ≤ m) := ⟨hkn, hkm⟩
        have hol : Hid ((tRows (draftL k ds)).length ≤ 100000000) := by
          show _ ≤ _
          rw [tRows_len]
          unfold draftL
          rw [List.length_map, List.length_take]
          omega
        have ht0 : -9223372036854775808 ≤ t ∧ t ≤ 9223372036854775807 := by omega
        have hu0 : -9223372036854775808 ≤ u ∧ u ≤ 9223372036854775807 := by omega
        have hn0 : -9223372036854775808 ≤ -u ∧ -u ≤ 9223372036854775807 := by omega
        have hk9 : -9223372036854775808 ≤ (k : Int) + 1 ∧ (k : Int) + 1 ≤ 9223372036854775807 := by omega
        have wt : IntKind.i64.wrap t = t := IntWalk.i64_in _ ht0
        have wu : IntKind.i64.wrap u = u := IntWalk.i64_in _ hu0
        have wk : wrap64 ((k : Int) + 1) = (k : Int) + 1 := IntWalk.wrap64_in _ hk9
        have wn : wrap64 (-u) = -u := IntWalk.wrap64_in _ hn0
        clear ht0 hu0 hn0 hk9
        obtain ⟨p, hp⟩ : ∃ p, t.tmod 100 = p := ⟨_, rfl⟩
        obtain ⟨r, hr⟩ : ∃ r, u.tmod 300 = r := ⟨_, rfl⟩
        by_cases hu : u < 0
        · have hda : dAbs u = -u := by unfold dAbs; rw [if_pos hu]
          have hnt : (-u).tmod 300 = -(u.tmod 300) := Int.neg_tmod _ _
          rw [hda, hnt, hp, hr] at hdt
          clear hda hnt
          have hownA := hown.later (Lat.alloc wr (.cells #[.int .i64 p, .int .i64 (-r)] 40))
          clear hown hx hg
          as_aux_lemma =>
          go_wp2_with (at_builtin; refine wpList_pushM rfl _ _ 26 (by rfl) W1.heap.size 40 40 (.agg #[.int .i64 0, .int .i64 0]) 2 16 Try.underlying26 termInfo rfl (by decide) (by decide) _ _ [.int .i64 p, .int .i64 (-r)] (by simp [Value.oneCell']) _ wr.heap.size (by rfl) hownA (Blk.new _ _ _) rfl 1 (by rfl) hol.out (Nat.le_trans hsz (Lat.alloc _ _).size) ?_; intro v' w' h1 h2 h3; clear wt wu wn hp hr c0 c1)
          have L9 := h3 W1 (hl.trans (Lat.alloc _ _)) (Nat.le_refl _)
          rw [← hdt.out] at h1
          clear h2 h3 hownA d0
          go_roundw
          case rel => exact ⟨k + 1, HK.out.1, HK.out.2, by first | exact me_succ k | (rw [wk]; exact me_succ k), h1, L9⟩
          case measure => first | exact me_up HK.out.2 | (rw [wk]; exact me_up HK.out.2)
        · have hda : dAbs u = u := by unfold dAbs; rw [if_neg hu]
          rw [hda, hp, hr] at hdt
          clear hda
          have hownA := hown.later (Lat.alloc wr (.cells #[.int .i64 p, .int .i64 r] 40))
          clear hown hx hg
          as_aux_lemma =>
          go_wp2_with (at_builtin; refine wpList_pushM rfl _ _ 26 (by rfl) W1.heap.size 40 40 (.agg #[.int .i64 0, .int .i64 0]) 2 16 Try.underlying26 termInfo rfl (by decide) (by decide) _ _ [.int .i64 p, .int .i64 r] (by simp [Value.oneCell']) _ wr.heap.size (by rfl) hownA (Blk.new _ _ _) rfl 1 (by rfl) hol.out (Nat.le_trans hsz (Lat.alloc _ _).size) ?_; intro v' w' h1 h2 h3; clear wt wu wn hp hr c0 c1)
          have L9 := h3 W1 (hl.trans (Lat.alloc _ _)) (Nat.le_refl _)
          rw [← hdt.out] at h1
          clear h2 h3 hownA d0
          go_roundw
          case rel => exact ⟨k + 1, HK.out.1, HK.out.2, by first | exact me_succ k | (rw [wk]; exact me_succ k), h1, L9⟩
          case measure => first | exact me_up HK.out.2 | (rw [wk]; exact me_up HK.out.2)
      · have hkI : (k : Int) < (n : Int) := by omega
        have hkI2 : ¬ (k : Int) < (m : Int) := by omega
        have hT : draftL k ds = draftL m ds := by rw [show k = m by omega]
        rw [hT] at hown
        obtain ⟨A7, c7, rfl, r7, _⟩ := hown.form
        have hde := draft_err HM.out ds
        rw [tRows_len] at r7 ⊢
        have HMK := Lib.hid (rMake_good A7 _ c7 _ wr r7 hde)
        obtain ⟨q, hq⟩ : ∃ q, (draftL m ds).length = q := ⟨_, rfl⟩
        rw [hq] at HMK ⊢
        have LL := Lib.hid (L1.out.trans hl)
        clear hkm hkn hown hT r7 hde hq hk hkm6 hsz k5 k6
        as_aux_lemma =>
        go_wp2_with fail
        refine HMK.out.mono ?_
        rintro e w5 ⟨v5, rfl, o5, l5⟩
        have HO5 := Lib.hid (o5.base LL.out.size)
        have LF := Lib.hid (LL.out.trans l5)
        clear o5 l5 HMK LL hl d0
        go_wp2
        go_ret
        exact ⟨_, rfl, HO5.out, LF.out⟩
    · have hkI : ¬ (k : Int) < (n : Int) := by omega
      have hT : draftL k ds = draftL m ds := by
        unfold draftL
        rw [List.take_of_length_le (by have := HLD.out; omega), List.take_of_length_le (by have := HLD.out; omega)]
      rw [hT] at hown
      obtain ⟨A7, c7, rfl, r7, _⟩ := hown.form
      have hde := draft_err HM.out ds
      rw [tRows_len] at r7 ⊢
      have HMK := Lib.hid (rMake_good A7 _ c7 _ wr r7 hde)
      obtain ⟨q, hq⟩ : ∃ q, (draftL m ds).length = q := ⟨_, rfl⟩
      rw [hq] at HMK ⊢
      have LL := Lib.hid (L1.out.trans hl)
      clear hkn hown hT r7 hde hq hk hkm6 hsz k5 k6
      as_aux_lemma =>
      go_wp2_with fail
      refine HMK.out.mono ?_
      rintro e w5 ⟨v5, rfl, o5, l5⟩
      have HO5 := Lib.hid (o5.base LL.out.size)
      have LF := Lib.hid (LL.out.trans l5)
      clear o5 l5 HMK LL hl d0
      go_wp2
      go_ret
      exact ⟨_, rfl, HO5.out, LF.out⟩
end Go.Proofs.Ytegejfcfoanaoaa
