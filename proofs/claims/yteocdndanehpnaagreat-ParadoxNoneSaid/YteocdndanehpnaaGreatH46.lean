/- Several texts in one: PxA, PxL. -/
import Derived.Test.YteocdndanehpnaaGreatH26
import Derived.Test.YteocdndanehpnaaGreatH31
import Derived.RangeFuncGives
import Derived.LoopNIn
import Derived.LoopIn
import Derived.TacticsInMore
import Derived.WalkMore
namespace Go.Proofs.YteocdndanehpnaaGreat
open Go.RowKit
set_option linter.unusedSimpArgs false
set_option linter.unusedVariables false
theorem fmSize : (Tryz.prog.info? 105).map (·.size) = some 3 := by kernel_rfl
def fmPost (w : World) (p : List Value → Bool) (xs : List (List Value)) (e : Ending) (w' : World) : Prop :=
 ∃ r : Int, e = .returned (.int .i64 r) ∧ ((r = -1 ∧ ∀ x ∈ xs, p x = false) ∨ ∃ (k : Nat) (x : List Value), r = (k : Int) ∧ xs[k]? = some x ∧ p x = true ∧ ∀ y ∈ xs.take k, p y = false) ∧ Lat w w'
set_option maxRecDepth 100000 in
set_option maxHeartbeats 2000000 in
theorem fmIdx_any (p : List Value → Bool) (q1 : Addr) (g n c : Nat) (xs : List (List Value)) (w : World) (hr : RowB w g 105 3 xs) (hn : xs.length = n) (hn1 : n ≤ 1000000)
  (HCL : ∀ x ∈ xs, ∀ w', Lat w w' → Calls Tryz.prog 75 #[.agg x.toArray, .pointer (some q1)] w' (fun e w'' => e = .returned (.bool (p x)) ∧ Lat w' w'')) :
  Calls Tryz.prog 74 #[.slice (some ⟨g, 0, none⟩) n c, .func (.func 75) #[] #[.pointer (some q1)]] w (fmPost w p xs) := by
 have HI := Lib.hid fmSize
 have HC := Lib.hid HCL
 clear HCL
 go_enter Tryz.func74, Tryz.ntmps74
 go_wp2
 go_loopw [8] (fun i wr => ∃ k : Nat, k ≤ n ∧ i = .int .i64 k ∧ Hid (∀ y ∈ xs.take k, p y = false) ∧ Lat w wr) (fun i _ => n - (intOf i).toNat)
 case atStart => exact ⟨0, Nat.zero_le _, rfl, fun y hy => by simp at hy, Lat.refl w⟩
 case round =>
  rename_i wr
  obtain ⟨k, hk, rfl, hno, hlr⟩ := hrel
  by_cases hlt : k < n
  ·have hkl : k < xs.length := by omega
   obtain ⟨x, hx⟩ : ∃ x, xs[k]? = some x := ⟨_, List.getElem?_eq_getElem hkl⟩
   have hmem := List.mem_of_getElem? hx
   have hxl : (Tryz.prog.info? 105).map (·.size) = some x.length := by rw [(hr.1 x hmem).1]; exact HI.out
   have hrange := (hr.later hlr).range hx
   have HX := Lib.hid hx
   have HT : Hid (∀ b, p x = b → b = false → ∀ y ∈ xs.take (k + 1), p y = false) := by
    intro b hb hf y hy
    obtain ⟨_, e⟩ := List.getElem?_eq_some_iff.1 hx
    rw [List.take_succ_eq_append_getElem hkl, List.mem_append, List.mem_singleton, e] at hy
    rcases hy with hy | rfl
    ·exact hno.out y hy
    ·rw [hb, hf]
   have HCx := HC.out x hmem
   have hgl := hr.later hlr |>.lt
   clear hx hmem
   go_wp2_with (refine wpList_load_mid (by rfl) 105 (.tmp 14) (by rfl) g (k * 3) (by rfl) x _ hrange Tryz.underlying105 rfl hxl ?_)
   refine (HCx wr hlr).mono ?_
   rintro e w2 ⟨rfl, l2⟩
   cases hp : p x with
   | true =>
     have HP := Lib.hid hp
     clear hp
     go_wp2
     go_ret
     exact ⟨k, rfl, .inr ⟨k, x, rfl, HX.out, HP.out, hno.out⟩, hlr.trans l2⟩
   | false =>
     have HP := Lib.hid (HT.out _ hp rfl)
     clear hp
     go_wp2
     go_roundw
     case rel => exact ⟨k + 1, by omega, by go_num, HP.out, hlr.trans l2⟩
     case measure => simp [intOf]; omega
  ·obtain rfl : k = n := by omega
   have HA : Hid (∀ y ∈ xs, p y = false) := by
    have := hno.out
    rwa [List.take_of_length_le (by omega)] at this
   go_wp2
   go_ret
   exact ⟨-1, rfl, .inl ⟨rfl, HA.out⟩, hlr⟩
def famOf (lo hi : Int) (f : Nat) : List Value := [.int .i64 lo, .int .i64 hi, .func (.func f) #[] #[]]
def famL : List (List Value) := [famOf 1 4 19, famOf 11 15 18]
def famP (k : Int) : List Value → Bool
 | .int _ lo :: .int _ hi :: _ => decide (lo ≤ k) && decide (k ≤ hi)
 | _ => false
theorem famP_of (k lo hi : Int) (f : Nat) : famP k (famOf lo hi f) = (decide (lo ≤ k) && decide (k ≤ hi)) := rfl
def famB (k : Int) : Bool := decide (1 ≤ k ∧ k ≤ 4) || decide (11 ≤ k ∧ k ≤ 15)
def famV (k : Int) : List Value := if 1 ≤ k ∧ k ≤ 4 then famOf 1 4 19 else if 11 ≤ k ∧ k ≤ 15 then famOf 11 15 18 else [.int .i64 0, .int .i64 0, Value.nilFunc]
set_option maxRecDepth 100000 in
set_option maxHeartbeats 2000000 in
theorem fam1_any (lo hi k : Int) (f : Nat) (b : Nat) (T : TypeId) (w : World) (hb : Blk w b T #[.int .i64 k]) :
  Calls Tryz.prog 75 #[.agg (famOf lo hi f).toArray, .pointer (some ⟨b, 0, none⟩)] w (fun e w' => e = .returned (.bool (famP k (famOf lo hi f))) ∧ Lat w w') := by
 rw [famP_of]
 unfold famOf
 go_enter Tryz.func75, Tryz.ntmps75
 go_upto_region 1 with (fail)
 refine name1 (Q := fun W => Code.wp _ _ _ _ W) ?_
 intro W1 L1 hs1 k2
 have kb := hb.later L1
 have c0 := kb.cell 0
 have d0 := k2.cell 0
 have d1 := k2.cell 1
 obtain ⟨g, hg⟩ : ∃ z, w.heap.size = z := ⟨_, rfl⟩
 rw [hg] at k2 d0 d1 ⊢
 clear hb hs1 hg k2 kb
 by_cases h1 : lo ≤ k
 ·by_cases h2 : k ≤ hi
  ·go_wp2
   go_ret
   exact ⟨by simp [h1, h2], L1⟩
  ·have h3 : decide (k ≤ hi) = false := by simp [h2]
   go_wp2
   go_ret
   exact ⟨by simp [h1, h2], L1⟩
 ·have h3 : decide (lo ≤ k) = false := by simp [h1]
  go_wp2
  go_ret
  exact ⟨by simp [h1], L1⟩
set_option maxRecDepth 100000 in
set_option maxHeartbeats 4000000 in
theorem pof_q (k : Int) (w : World) (hk : 1 ≤ k ∧ k ≤ 4) : Calls Tryz.prog 49 #[.int .i64 k] w (fun e w' => e = .returned (.tuple #[.agg (famOf 1 4 19).toArray, .bool true]) ∧ Lat w w') := by
 go_enter Tryz.func49, Tryz.ntmps49
 go_wp2_with fail
 refine name3 (Q := fun W => Calls _ _ _ W _) ?_
 intro W L hs kb kc ks
 obtain ⟨g1, hg1⟩ : ∃ z, w.heap.size = z := ⟨_, rfl⟩
 rw [hg1] at kb kc ks hs ⊢
 have hfresh : w.heap.size ≤ g1 := by omega
 clear hg1
 have HR : RowB W (g1 + 1 + 1) 105 3 famL := by
  refine ⟨?_, _, ks, by decide, ?_⟩
  ·intro x hx
   simp only [famL, List.mem_cons, List.not_mem_nil, or_false] at hx
   rcases hx with rfl | rfl <;> exact ⟨rfl, by intro v hv; simp only [famOf, List.mem_cons, List.not_mem_nil, or_false] at hv; rcases hv with rfl | rfl | rfl <;> rfl⟩
  ·intro i x hx j v hv
   match i, hx with
   | 0, hx => cases hx; match j, hv with
     | 0, hv => cases hv; rfl
     | 1, hv => cases hv; rfl
     | 2, hv => cases hv; rfl
   | 1, hx => cases hx; match j, hv with
     | 0, hv => cases hv; rfl
     | 1, hv => cases hv; rfl
     | 2, hv => cases hv; rfl
 have HCL : ∀ x ∈ famL, ∀ w', Lat W w' → Calls Tryz.prog 75 #[.agg x.toArray, .pointer (some ⟨g1, 0, none⟩)] w' (fun e w'' => e = .returned (.bool (famP k x)) ∧ Lat w' w'') := by
  intro x hx w' hl
  simp only [famL, List.mem_cons, List.not_mem_nil, or_false] at hx
  rcases hx with rfl | rfl
  ·exact fam1_any _ _ k _ g1 _ w' (kb.later hl)
  ·exact fam1_any _ _ k _ g1 _ w' (kb.later hl)
 refine (fmIdx_any (famP k) ⟨g1, 0, none⟩ (g1 + 1 + 1) 2 2 famL W HR rfl (by decide) HCL).mono ?_
 rintro e w1 ⟨r, rfl, hr, l1⟩
 have kc := kc.later l1
 have HR := HR.later l1
 have L1 := L.trans l1
 clear HCL ks kb l1 hs L
 have r0 := HR.range (i := 0) rfl
 have r1 := HR.range (i := 1) rfl
 have d0 := kc.cell 0
 have d1 := kc.cell 1
 have d2 := kc.cell 2
 have f0 := kc.frozen 0
 have f1 := kc.frozen 1
 have f2 := kc.frozen 2
 have e0 : famP k (famOf 1 4 19) = true := by rw [famP_of]; simp; omega
 have e1 : famP k (famOf 11 15 18) = false := by rw [famP_of]; simp; omega
 obtain rfl : r = 0 := by
  rcases hr with ⟨_, hr⟩ | ⟨j, x, rfl, hj, hp, hb⟩
  ·have := hr _ (List.mem_cons_self ..); rw [e0] at this; cases this
  ·cases j with
   | zero => rfl
   | succ j => have := hb (famOf 1 4 19) (by simp [famL]); rw [e0] at this; cases this
 clear hr hk e0 e1
 clear HR r1
 go_wp2_with (first | (refine wpList_load_mid (by rfl) 105 (.tmp 17) (by rfl) (g1 + 1 + 1) 0 (by rfl) ([.int .i64 1, .int .i64 4, .func (.func 19) #[] #[]]) _ (by simpa [famOf] using r0) Tryz.underlying105 rfl (by kernel_rfl) ?_) | (refine wpList_put rfl 105 (.tmp 2) (.tmp 18) (by rfl) (by rfl) (g1 + 1) (by rfl) #[.int .i64 1, .int .i64 4, .func (.func 19) #[] #[]] (by rfl) kc (by rfl) (by kernel_rfl) (by simp [Value.oneCell']) ?_; intro w2 hput; have k2 := hput.blk; have l2 := hput.lat w L1 (by omega); have c0 := k2.cell 0; have c1 := k2.cell 1; have c2 := k2.cell 2; clear hput k2))
 refine bodyPost_ret (v := .tuple #[.agg (famOf 1 4 19).toArray, .bool true]) (by simp [results, Tryz.results49, go_sem, c0, c1, c2, famOf]) rfl ?_
 exact ⟨rfl, l2⟩
set_option maxRecDepth 100000 in
set_option maxHeartbeats 4000000 in
theorem pof_d (k : Int) (w : World) (hk : 11 ≤ k ∧ k ≤ 15) : Calls Tryz.prog 49 #[.int .i64 k] w (fun e w' => e = .returned (.tuple #[.agg (famOf 11 15 18).toArray, .bool true]) ∧ Lat w w') := by
 go_enter Tryz.func49, Tryz.ntmps49
 go_wp2_with fail
 refine name3 (Q := fun W => Calls _ _ _ W _) ?_
 intro W L hs kb kc ks
 obtain ⟨g1, hg1⟩ : ∃ z, w.heap.size = z := ⟨_, rfl⟩
 rw [hg1] at kb kc ks hs ⊢
 have hfresh : w.heap.size ≤ g1 := by omega
 clear hg1
 have HR : RowB W (g1 + 1 + 1) 105 3 famL := by
  refine ⟨?_, _, ks, by decide, ?_⟩
  ·intro x hx
   simp only [famL, List.mem_cons, List.not_mem_nil, or_false] at hx
   rcases hx with rfl | rfl <;> exact ⟨rfl, by intro v hv; simp only [famOf, List.mem_cons, List.not_mem_nil, or_false] at hv; rcases hv with rfl | rfl | rfl <;> rfl⟩
  ·intro i x hx j v hv
   match i, hx with
   | 0, hx => cases hx; match j, hv with
     | 0, hv => cases hv; rfl
     | 1, hv => cases hv; rfl
     | 2, hv => cases hv; rfl
   | 1, hx => cases hx; match j, hv with
     | 0, hv => cases hv; rfl
     | 1, hv => cases hv; rfl
     | 2, hv => cases hv; rfl
 have HCL : ∀ x ∈ famL, ∀ w', Lat W w' → Calls Tryz.prog 75 #[.agg x.toArray, .pointer (some ⟨g1, 0, none⟩)] w' (fun e w'' => e = .returned (.bool (famP k x)) ∧ Lat w' w'') := by
  intro x hx w' hl
  simp only [famL, List.mem_cons, List.not_mem_nil, or_false] at hx
  rcases hx with rfl | rfl
  ·exact fam1_any _ _ k _ g1 _ w' (kb.later hl)
  ·exact fam1_any _ _ k _ g1 _ w' (kb.later hl)
 refine (fmIdx_any (famP k) ⟨g1, 0, none⟩ (g1 + 1 + 1) 2 2 famL W HR rfl (by decide) HCL).mono ?_
 rintro e w1 ⟨r, rfl, hr, l1⟩
 have kc := kc.later l1
 have HR := HR.later l1
 have L1 := L.trans l1
 clear HCL ks kb l1 hs L
 have r0 := HR.range (i := 0) rfl
 have r1 := HR.range (i := 1) rfl
 have d0 := kc.cell 0
 have d1 := kc.cell 1
 have d2 := kc.cell 2
 have f0 := kc.frozen 0
 have f1 := kc.frozen 1
 have f2 := kc.frozen 2
 have e0 : famP k (famOf 1 4 19) = false := by rw [famP_of]; simp; omega
 have e1 : famP k (famOf 11 15 18) = true := by rw [famP_of]; simp; omega
 obtain rfl : r = 1 := by
  rcases hr with ⟨_, hr⟩ | ⟨j, x, rfl, hj, hp, hb⟩
  ·have := hr (famOf 11 15 18) (by simp [famL]); rw [e1] at this; cases this
  ·match j, hj, hb with
   | 0, hj, _ => cases hj; rw [e0] at hp; cases hp
   | 1, _, _ => rfl
   | j + 2, hj, _ => cases hj
 clear hr hk e0 e1
 clear HR r0
 go_wp2_with (first | (refine wpList_load_mid (by rfl) 105 (.tmp 17) (by rfl) (g1 + 1 + 1) 3 (by rfl) ([.int .i64 11, .int .i64 15, .func (.func 18) #[] #[]]) _ (by simpa [famOf] using r1) Tryz.underlying105 rfl (by kernel_rfl) ?_) | (refine wpList_put rfl 105 (.tmp 2) (.tmp 18) (by rfl) (by rfl) (g1 + 1) (by rfl) #[.int .i64 11, .int .i64 15, .func (.func 18) #[] #[]] (by rfl) kc (by rfl) (by kernel_rfl) (by simp [Value.oneCell']) ?_; intro w2 hput; have k2 := hput.blk; have l2 := hput.lat w L1 (by omega); have c0 := k2.cell 0; have c1 := k2.cell 1; have c2 := k2.cell 2; clear hput k2))
 refine bodyPost_ret (v := .tuple #[.agg (famOf 11 15 18).toArray, .bool true]) (by simp [results, Tryz.results49, go_sem, c0, c1, c2, famOf]) rfl ?_
 exact ⟨rfl, l2⟩
set_option maxRecDepth 100000 in
set_option maxHeartbeats 4000000 in
theorem pof_n (k : Int) (w : World) (hk : ¬ (1 ≤ k ∧ k ≤ 4) ∧ ¬ (11 ≤ k ∧ k ≤ 15)) : Calls Tryz.prog 49 #[.int .i64 k] w (fun e w' => e = .returned (.tuple #[.agg ([.int .i64 0, .int .i64 0, Value.nilFunc]).toArray, .bool false]) ∧ Lat w w') := by
 go_enter Tryz.func49, Tryz.ntmps49
 go_wp2_with fail
 refine name3 (Q := fun W => Calls _ _ _ W _) ?_
 intro W L hs kb kc ks
 obtain ⟨g1, hg1⟩ : ∃ z, w.heap.size = z := ⟨_, rfl⟩
 rw [hg1] at kb kc ks hs ⊢
 have hfresh : w.heap.size ≤ g1 := by omega
 clear hg1
 have HR : RowB W (g1 + 1 + 1) 105 3 famL := by
  refine ⟨?_, _, ks, by decide, ?_⟩
  ·intro x hx
   simp only [famL, List.mem_cons, List.not_mem_nil, or_false] at hx
   rcases hx with rfl | rfl <;> exact ⟨rfl, by intro v hv; simp only [famOf, List.mem_cons, List.not_mem_nil, or_false] at hv; rcases hv with rfl | rfl | rfl <;> rfl⟩
  ·intro i x hx j v hv
   match i, hx with
   | 0, hx => cases hx; match j, hv with
     | 0, hv => cases hv; rfl
     | 1, hv => cases hv; rfl
     | 2, hv => cases hv; rfl
   | 1, hx => cases hx; match j, hv with
     | 0, hv => cases hv; rfl
     | 1, hv => cases hv; rfl
     | 2, hv => cases hv; rfl
 have HCL : ∀ x ∈ famL, ∀ w', Lat W w' → Calls Tryz.prog 75 #[.agg x.toArray, .pointer (some ⟨g1, 0, none⟩)] w' (fun e w'' => e = .returned (.bool (famP k x)) ∧ Lat w' w'') := by
  intro x hx w' hl
  simp only [famL, List.mem_cons, List.not_mem_nil, or_false] at hx
  rcases hx with rfl | rfl
  ·exact fam1_any _ _ k _ g1 _ w' (kb.later hl)
  ·exact fam1_any _ _ k _ g1 _ w' (kb.later hl)
 refine (fmIdx_any (famP k) ⟨g1, 0, none⟩ (g1 + 1 + 1) 2 2 famL W HR rfl (by decide) HCL).mono ?_
 rintro e w1 ⟨r, rfl, hr, l1⟩
 have kc := kc.later l1
 have HR := HR.later l1
 have L1 := L.trans l1
 clear HCL ks kb l1 hs L
 have r0 := HR.range (i := 0) rfl
 have r1 := HR.range (i := 1) rfl
 have d0 := kc.cell 0
 have d1 := kc.cell 1
 have d2 := kc.cell 2
 have f0 := kc.frozen 0
 have f1 := kc.frozen 1
 have f2 := kc.frozen 2
 have e0 : famP k (famOf 1 4 19) = false := by rw [famP_of]; simp; omega
 have e1 : famP k (famOf 11 15 18) = false := by rw [famP_of]; simp; omega
 obtain rfl : r = -1 := by
  rcases hr with ⟨h, _⟩ | ⟨j, x, rfl, hj, hp, hb⟩
  ·exact h
  ·match j, hj with
   | 0, hj => cases hj; rw [e0] at hp; cases hp
   | 1, hj => cases hj; rw [e1] at hp; cases hp
   | j + 2, hj => cases hj
 clear hr hk e0 e1
 go_wp2_with (refine wpList_put rfl 105 (.tmp 2) (.tmp 14) (by rfl) (by rfl) (g1 + 1) (by rfl) #[.int .i64 0, .int .i64 0, Value.nilFunc] (by rfl) kc (by rfl) (by kernel_rfl) (by simp [Value.oneCell']) ?_; intro w2 hput; have k2 := hput.blk; have l2 := hput.lat w L1 (by omega); have c0 := k2.cell 0; have c1 := k2.cell 1; have c2 := k2.cell 2; clear hput k2)
 refine bodyPost_ret (v := .tuple #[.agg #[.int .i64 0, .int .i64 0, Value.nilFunc], .bool false]) (by simp [results, Tryz.results49, go_sem, c0, c1, c2]) rfl ?_
 exact ⟨rfl, l2⟩
def GivS (w : World) (F : Aw) (er : Int) (e : Ending) (w' : World) : Prop :=
 ∃ A1 n1 c1 A2 n2 c2, e = .returned (.tuple #[.agg #[.slice A1 n1 c1, .slice A2 n2 c2, .int .i64 F.left], .int .i64 er]) ∧ Sl w' .i64 A1 n1 F.seats ∧ (∀ a, A1 = some a → w.heap.size ≤ a.block) ∧ Lat w w'
def DecPost (w : World) (L : List Int) (er : Int) (e : Ending) (w' : World) : Prop :=
 ∃ A n c, e = .returned (.tuple #[.slice A n c, .int .i64 er]) ∧ Sl w' .i64 A n L ∧ (∀ a, A = some a → w.heap.size ≤ a.block) ∧ Lat w w'
theorem DecPost.no (w w' : World) (er : Int) (h : Lat w w') : DecPost w [] er (.returned (.tuple #[.slice none 0 0, .int .i64 er])) w' :=
 ⟨none, 0, 0, rfl, Sl.nil _ _ _, (fun a e => by cases e), h⟩
theorem pof_any (k : Int) (w : World) : Calls Tryz.prog 49 #[.int .i64 k] w (fun e w' => e = .returned (.tuple #[.agg (famV k).toArray, .bool (famB k)]) ∧ Lat w w') := by
 by_cases h1 : 1 ≤ k ∧ k ≤ 4
 ·rw [famV, if_pos h1, show famB k = true by simp [famB, h1]]
  exact pof_q k w h1
 ·by_cases h2 : 11 ≤ k ∧ k ≤ 15
  ·rw [famV, if_neg h1, if_pos h2, show famB k = true by simp [famB, h2]]
   exact pof_d k w h2
  ·rw [famV, if_neg h1, if_neg h2, show famB k = false by simp only [famB, Bool.or_eq_false_iff, decide_eq_false_iff_not]; exact ⟨h1, h2⟩]
   exact pof_n k w ⟨h1, h2⟩
theorem famV_cases (k : Int) : (famB k = true ∧ ∃ lo hi f, famV k = famOf lo hi f) ∨ (famB k = false ∧ famV k = [.int .i64 0, .int .i64 0, Value.nilFunc]) := by
 by_cases h1 : 1 ≤ k ∧ k ≤ 4
 ·exact .inl ⟨by simp [famB, h1], _, _, _, by rw [famV, if_pos h1]⟩
 ·by_cases h2 : 11 ≤ k ∧ k ≤ 15
  ·exact .inl ⟨by simp [famB, h2], _, _, _, by rw [famV, if_neg h1, if_pos h2]⟩
  ·exact .inr ⟨by simp only [famB, Bool.or_eq_false_iff, decide_eq_false_iff_not]; exact ⟨h1, h2⟩, by rw [famV, if_neg h1, if_neg h2]⟩
end Go.Proofs.YteocdndanehpnaaGreat
namespace Go.Proofs.YteocdndanehpnaaGreat
open Go.RowKit
set_option linter.unusedSimpArgs false
set_option linter.unusedVariables false
def lossP (Lx : Int → List Int) (s : Int) (i : Nat) : List (Int × Int) := ((List.range i).filter fun j => decide (atI (Lx s) j < atI (Lx (s - 1)) j)).map fun j => (s, ((j : Nat) : Int))
def lossG (D : Int → Int) (Lx : Int → List Int) (n : Nat) (a : Int) (t : Nat) : List (Int × Int) := (List.range t).flatMap fun j => if D (a + (j : Nat)) = 0 ∧ D (a + (j : Nat) + 1) = 0 then lossP Lx (a + (j : Nat) + 1) n else []
section
variable {D : Int → Int} {Lx : Int → List Int} {n t i : Nat} {a s : Int}
theorem lossP_yes (h : atI (Lx s) i < atI (Lx (s - 1)) i) : lossP Lx s (i + 1) = lossP Lx s i ++ [(s, (i : Int))] := by
 simp [lossP, List.range_succ, List.filter_append, h]
theorem lossP_no (h : ¬ atI (Lx s) i < atI (Lx (s - 1)) i) : lossP Lx s (i + 1) = lossP Lx s i := by
 simp [lossP, List.range_succ, List.filter_append, h]
theorem lossG_no (h : ¬ (D (a + (t : Nat)) = 0 ∧ D (a + (t : Nat) + 1) = 0)) : lossG D Lx n a (t + 1) = lossG D Lx n a t := by
 rw [lossG, List.range_succ, List.flatMap_append, ← lossG]
 simp only [List.flatMap_cons, List.flatMap_nil, if_neg h, List.append_nil]
theorem lossG_more (h : D (a + (t : Nat)) = 0 ∧ D (a + (t : Nat) + 1) = 0) : lossG D Lx n a (t + 1) = lossG D Lx n a t ++ lossP Lx (a + (t : Nat) + 1) n := by
 rw [lossG, List.range_succ, List.flatMap_append, ← lossG]
 simp only [List.flatMap_cons, List.flatMap_nil, if_pos h, List.append_nil]
theorem lossP_pre {i k : Nat} (h : i ≤ k) : lossP Lx s i <+: lossP Lx s k := by
 induction k with
 | zero => obtain rfl : i = 0 := by omega
           exact List.prefix_refl _
 | succ k ih =>
   rcases Nat.lt_or_ge k i with h1 | h1
   ·obtain rfl : i = k + 1 := by omega
    exact List.prefix_refl _
   ·refine (ih h1).trans ?_
    by_cases h9 : atI (Lx s) k < atI (Lx (s - 1)) k
    ·rw [lossP_yes h9]; exact List.prefix_append _ _
    ·rw [lossP_no h9]; exact List.prefix_refl _
theorem lossG_pre {t k : Nat} (h : t ≤ k) : lossG D Lx n a t <+: lossG D Lx n a k := by
 induction k with
 | zero => obtain rfl : t = 0 := by omega
           exact List.prefix_refl _
 | succ k ih =>
   rcases Nat.lt_or_ge k t with h1 | h1
   ·obtain rfl : t = k + 1 := by omega
    exact List.prefix_refl _
   ·refine (ih h1).trans ?_
    by_cases h9 : D (a + (k : Nat)) = 0 ∧ D (a + (k : Nat) + 1) = 0
    ·rw [lossG_more h9]; exact List.prefix_append _ _
    ·rw [lossG_no h9]; exact List.prefix_refl _
theorem lossP_len : (lossP Lx s i).length ≤ i := by
 unfold lossP
 rw [List.length_map]
 exact Nat.le_trans (List.length_filter_le _ _) (by simp)
theorem lossG_len : ∀ t, (lossG D Lx n a t).length ≤ t * n
 | 0 => by simp [lossG]
 | t + 1 => by
   have ih := lossG_len t
   have h2 : (t + 1) * n = t * n + n := Nat.succ_mul t n
   by_cases h9 : D (a + (t : Nat)) = 0 ∧ D (a + (t : Nat) + 1) = 0
   ·rw [lossG_more h9, List.length_append]
    have := lossP_len (Lx := Lx) (s := a + (t : Nat) + 1) (i := n)
    omega
   ·rw [lossG_no h9]; omega
theorem loss_here {T : Nat} (h : D (a + (t : Nat)) = 0 ∧ D (a + (t : Nat) + 1) = 0) (hi : i < n) (ht : t < T) (hl : atI (Lx (a + (t : Nat) + 1)) i < atI (Lx (a + (t : Nat) + 1 - 1)) i) :
  (lossG D Lx n a t ++ lossP Lx (a + (t : Nat) + 1) i) ++ [(a + (t : Nat) + 1, (i : Int))] <+: lossG D Lx n a T := by
 refine List.IsPrefix.trans ?_ (lossG_pre (t := t + 1) ht)
 rw [lossG_more h, List.append_assoc, ← lossP_yes hl]
 exact List.prefix_append_right_inj _ |>.2 (lossP_pre hi)
end
theorem Sl.keepP {M : Nat → Prop} {W w : World} {k : IntKind} {A : Option Addr} {n : Nat} {xs : List Int} (h : Sl W k A n xs) (hl : LatP M W w) (hA : ∀ a, A = some a → ¬ M a.block) : Sl w k A n xs := by
 refine ⟨h.1, fun hn => ?_⟩
 obtain ⟨a, e, hlt, hc⟩ := h.2 hn
 refine ⟨a, e, Nat.lt_of_lt_of_le hlt hl.size, fun j x hx => ?_⟩
 rw [← hc j x hx]
 exact World.cell?_of_block (by rw [block_add]; exact hl.block _ hlt (hA a e))
theorem sl_at {w : World} {b o n : Nat} {xs : List Int} (h : Sl w .i64 (some ⟨b, o, none⟩) n xs) {j : Nat} {x : Int} (hx : xs[j]? = some x) : w.cell? ⟨b, o + j, none⟩ = some (.int .i64 x) := by
 have hj := (List.getElem?_eq_some_iff.1 hx).1
 have hl := h.1
 obtain ⟨b', o', e, hc⟩ := h.plain (by omega)
 cases e
 rw [hc j hj, List.getD_eq_getElem?_getD, hx]
 rfl
def Far (g : Option Nat) (A : Option Addr) : Prop := ∀ q a, g = some q → A = some a → q ≠ a.block
structure LsK (B0 b1 b2 b3 b4 n c : Nat) (A : Option Addr) (P : List Int) (a k z : Int) (w : World) : Prop where
 k1 : Blk w b1 29 #[.slice A n c]
 k2 : Blk w b2 3 #[.int .i64 a]
 k3 : Blk w b3 3 #[.int .i64 k]
 k4 : Blk w b4 3 #[.int .i64 z]
 p : Sl w .i64 A n P
 l1 : b1 < B0
 l2 : b2 < B0
 l3 : b3 < B0
 l4 : b4 < B0
 la : ∀ x, A = some x → x.block < B0
 lw : B0 ≤ w.heap.size
section
variable {B0 b1 b2 b3 b4 n c : Nat} {A : Option Addr} {P : List Int} {a k z : Int} {W w : World}
theorem LsK.keepP {M : Nat → Prop} (h : LsK B0 b1 b2 b3 b4 n c A P a k z W) (hl : LatP M W w) (hM : ∀ q, M q → B0 ≤ q) : LsK B0 b1 b2 b3 b4 n c A P a k z w := by
 obtain ⟨k1, k2, k3, k4, p, l1, l2, l3, l4, la, lw⟩ := h
 have hn : ∀ q, q < B0 → ¬ M q := fun q hq hm => by have := hM q hm; omega
 exact ⟨k1.keepP hl (hn _ l1), k2.keepP hl (hn _ l2), k3.keepP hl (hn _ l3), k4.keepP hl (hn _ l4), p.keepP hl (fun x e => hn _ (la x e)), l1, l2, l3, l4, la, Nat.le_trans lw hl.size⟩
theorem LsK.later (h : LsK B0 b1 b2 b3 b4 n c A P a k z W) (hl : Lat W w) : LsK B0 b1 b2 b3 b4 n c A P a k z w := h.keepP (hl.p (fun _ => False)) (fun q h => h.elim)
end
def YieldsL (l : Nat) (theirs : Nat → Prop) (I : List (Int × Int) → Option Nat → World → Prop) (D9 : List (Int × Int) → Int × Int → World → Prop) : Prop :=
 ∀ (L : List (Int × Int)) (g : Option Nat) (W : World) (x y : Int), L.length ≤ 100000 → I L g W → YieldAt Fence.wide 2 Tryz.prog l #[.agg #[.int .i64 x, .int .i64 y]] W (fun e W' => ∃ b, e = .returned (.bool b) ∧
  ((b = true ∧ LatP (fun q => theirs q ∨ some q = g) W W' ∧ ∃ g', (g' = g ∨ ∀ q, g' = some q → W.heap.size ≤ q) ∧ I (L ++ [(x, y)]) g' W') ∨ (b = false ∧ D9 L (x, y) W')))
set_option maxRecDepth 100000 in
set_option maxHeartbeats 8000000 in
theorem losses_iter (D : Int → Int) (Lx : Int → List Int) (B0 b1 b2 b3 b4 n c : Nat) (A : Option Addr) (P : List Int) (a k z : Int) (T : Nat) (l : Nat) (theirs : Nat → Prop) (I : List (Int × Int) → Option Nat → World → Prop) (D9 : List (Int × Int) → Int × Int → World → Prop) (W0 : World)
  (hK : LsK B0 b1 b2 b3 b4 n c A P a k z W0) (a0 : 0 ≤ a) (a1 : a ≤ 100000) (hz : z = a + (T : Int)) (hT : T ≤ 100) (hn0 : 0 < n) (hn : n ≤ 60)
  (hD : ∀ (t : Nat) (w : World), t ≤ T → Sl w .i64 A n P → Calls Tryz.prog 20 #[.slice A n c, .int .i64 (a + (t : Int)), .int .i64 k] w (DecPost w (Lx (a + (t : Int))) (D (a + (t : Int)))))
  (hlen : ∀ s, D s = 0 → (Lx s).length = n)
  (hI : ∀ L g W W', I L g W → Lat W W' → I L g W') (hg : ∀ L g W, I L g W → ∀ q, g = some q → B0 ≤ q ∧ q < W.heap.size) (hth : ∀ q, theirs q → B0 ≤ q ∧ q < W0.heap.size)
  (hY : YieldsL l theirs I D9) (g0 : Option Nat) (hI0 : I [] g0 W0) :
  Calls Tryz.prog 53 #[.func (.yield l) #[] #[], .pointer (some ⟨b1, 0, none⟩), .pointer (some ⟨b2, 0, none⟩), .pointer (some ⟨b3, 0, none⟩), .pointer (some ⟨b4, 0, none⟩)] W0
   (fun e W' => ∃ v, e = .returned v ∧ ((∃ g, I (lossG D Lx n a T) g W') ∨ ∃ L x, L ++ [x] <+: lossG D Lx n a T ∧ D9 L x W')) := by
 have HI := Lib.hid hI
 have HG := Lib.hid hg
 have HTH := Lib.hid hth
 have HY := Lib.hid hY
 have HD := Lib.hid hD
 have HLEN := Lib.hid hlen
 clear hI hg hth hY hD hlen
 have c1 := hK.k1.cell 0
 have c2 := hK.k2.cell 0
 have c3 := hK.k3.cell 0
 have c4 := hK.k4.cell 0
 have HK := Lib.hid hK
 have HI0 := Lib.hid hI0
 have HZ := Lib.hid hz
 have hw1 : IntKind.i64.wrap (a + 1) = a + 1 := IntWalk.i64_in _ (by omega)
 have hw2 : wrap64 (a + 1) = a + 1 := IntWalk.wrap64_in _ (by omega)
 clear hz hK hI0
 go_enter Tryz.func53, Tryz.ntmps53
 go_wp2_with fail
 refine wp_scope_straight ?_
 go_wp2_with fail
 have h0 := HD.out 0 W0 (Nat.zero_le _) HK.out.p
 rw [show a + ((0 : Nat) : Int) = a by omega] at h0
 refine h0.mono ?_
 rintro e w1 ⟨A0, n0, c0, rfl, q0, f0, l1⟩
 have HK1 := Lib.hid (HK.out.later l1)
 have HI1 := Lib.hid (HI.out _ _ _ _ HI0.out l1)
 have HS0 : Hid (W0.heap.size ≤ w1.heap.size) := l1.size
 have HQ0 := Lib.hid q0
 have HF0 := Lib.hid f0
 have c2 := HK1.out.k2.cell 0
 clear h0 q0 f0 l1 c1 c3 c4
 go_wp2
 go_step3
 go_wp2
 go_loopw [6, 7, 8] (fun b e s wr => ∃ (t : Nat) (g : Option Nat) (A0 : Option Addr) (n0 c0 : Nat), t ≤ T ∧ s = .int .i64 (a + (t : Int) + 1) ∧ e = .int .i64 (D (a + (t : Int))) ∧ b = .slice A0 n0 c0 ∧ Hid (Sl wr .i64 A0 n0 (Lx (a + (t : Int)))) ∧ Hid (∀ q, A0 = some q → W0.heap.size ≤ q.block) ∧ Hid (Far g A0) ∧ Hid (I (lossG D Lx n a t) g wr) ∧ Hid (LsK B0 b1 b2 b3 b4 n c A P a k z wr) ∧ Hid (W0.heap.size ≤ wr.heap.size)) (fun _ _ s _ => (z + 1 - intOf s).toNat)
 case atStart =>
  refine ⟨0, g0, A0, n0, c0, Nat.zero_le _, by simp, by simp, rfl, ?_, HF0, ?_, ?_, HK1, HS0⟩
  ·rw [show a + ((0 : Nat) : Int) = a by omega]; exact HQ0
  ·intro q x hq hx
   have := (HG.out _ _ _ HI0.out q hq).2
   have := HF0.out x hx
   omega
  ·exact HI1
 case round =>
  obtain ⟨t, g, A0, n0, c0, ht, rfl, rfl, rfl, q0, f0, far, hIt, hKt, hsz⟩ := hrel
  clear HK HI0 HK1 HI1 HS0 HQ0 HF0 c2
  have c1 := hKt.out.k1.cell 0
  have c3 := hKt.out.k3.cell 0
  have c4 := hKt.out.k4.cell 0
  by_cases hlt : t < T
  ·obtain ⟨s0, hs0⟩ : ∃ s0, a + (t : Int) = s0 := ⟨_, rfl⟩
   have hd1 := HD.out (t + 1) wr (by omega) hKt.out.p
   have hnx : a + ((t + 1 : Nat) : Int) = s0 + 1 := by omega
   rw [hnx] at hd1
   have hz1 : s0 + 1 ≤ z := by have := HZ.out; omega
   have hs1 : 0 ≤ s0 := by omega
   have hs2 : s0 ≤ 200000 := by omega
   have HHR := fun i hi hl h0 h1 => loss_here (D := D) (Lx := Lx) (n := n) (a := a) (t := t) (i := i) (T := T) ⟨h0, h1⟩ hi hlt hl
   rw [hs0] at HHR q0 ⊢
   have HHERE := Lib.hid HHR
   have HGn : Hid (¬ (D s0 = 0 ∧ D (s0 + 1) = 0) → lossG D Lx n a (t + 1) = lossG D Lx n a t) := fun h => lossG_no (by rw [hs0]; exact h)
   have HGm : Hid (D s0 = 0 ∧ D (s0 + 1) = 0 → lossG D Lx n a (t + 1) = lossG D Lx n a t ++ lossP Lx (s0 + 1) n) := fun h => by rw [lossG_more (by rw [hs0]; exact h), hs0]
   have HLL : Hid ((lossG D Lx n a t).length ≤ 6000) := by
    have h1 := lossG_len (D := D) (Lx := Lx) (n := n) (a := a) t
    have h2 : t * n ≤ 100 * 60 := Nat.mul_le_mul (by omega) hn
    show _ ≤ _
    omega
   have w3 : IntKind.i64.wrap (s0 + 1 + 1) = s0 + 1 + 1 := IntWalk.i64_in _ (by omega)
   have w4 : wrap64 (s0 + 1 + 1) = s0 + 1 + 1 := IntWalk.wrap64_in _ (by omega)
   have HNX := Lib.hid hnx
   have HLT := Lib.hid hlt
   clear hs0 hnx HHR hlt ht
   go_wp2_with fail
   refine hd1.mono ?_
   rintro e w2 ⟨A1, n1, c5, rfl, q1, f1, l2⟩
   have hI2 := Lib.hid (HI.out _ _ _ _ hIt.out l2)
   have hK2 := Lib.hid (hKt.out.later l2)
   have q02 := Lib.hid (q0.out.later l2)
   have hsz2 : Hid (W0.heap.size ≤ w2.heap.size) := Nat.le_trans hsz.out l2.size
   have far1 : Hid (Far g A1) := by
    intro q x hq hx
    have := (HG.out _ _ _ hIt.out q hq).2
    have := f1 x hx
    omega
   have f12 : Hid (∀ q, A1 = some q → W0.heap.size ≤ q.block) := fun q e => Nat.le_trans hsz.out (f1 q e)
   have q12 := Lib.hid q1
   clear hd1 c1 c3 c4 q0 q1 f1 l2 hIt hKt hsz
   have hn0' : D s0 = 0 → n0 = n := fun h => by rw [← q02.out.1]; exact HLEN.out _ h
   have hn1' : D (s0 + 1) = 0 → n1 = n := fun h => by rw [← q12.out.1]; exact HLEN.out _ h
   obtain ⟨e0, he0⟩ : ∃ e0, D s0 = e0 := ⟨_, rfl⟩
   obtain ⟨e1, he1⟩ : ∃ e1, D (s0 + 1) = e1 := ⟨_, rfl⟩
   rw [he0] at HGn HGm hn0' ⊢
   rw [he1] at HGn HGm hn1' ⊢
   rw [he0, he1] at HHERE
   have HE1 := Lib.hid he1
   clear he0 he1
   by_cases hb : e0 = 0 ∧ e1 = 0
   ·obtain ⟨rfl, rfl⟩ := hb
    have en0 := hn0' rfl
    have en1 := hn1' rfl
    have HGG : Hid (lossG D Lx n a (t + 1) = lossG D Lx n a t ++ lossP Lx (s0 + 1) n) := HGm.out ⟨rfl, rfl⟩
    clear hn0' hn1' HGn HGm
    subst en0 en1
    obtain ⟨x0, y0, hA0, _⟩ := q02.out.plain hn0
    obtain ⟨x1, y1, hA1, _⟩ := q12.out.plain hn0
    subst hA0 hA1
    go_wp2
    go_loopw [46] (fun it wx => ∃ (i : Nat) (gg : Option Nat), i ≤ n1 ∧ it = .int .i64 (i : Nat) ∧ Hid (I (lossG D Lx n1 a t ++ lossP Lx (s0 + 1) i) gg wx) ∧ Hid (LsK B0 b1 b2 b3 b4 n1 c A P a k z wx) ∧ Hid (Sl wx .i64 (some ⟨x0, y0, none⟩) n1 (Lx s0)) ∧ Hid (Sl wx .i64 (some ⟨x1, y1, none⟩) n1 (Lx (s0 + 1))) ∧ Hid (Far gg (some ⟨x0, y0, none⟩)) ∧ Hid (Far gg (some ⟨x1, y1, none⟩)) ∧ Hid (W0.heap.size ≤ wx.heap.size)) (fun it _ => n1 - (intOf it).toNat)
    case atStart => exact ⟨0, g, Nat.zero_le _, rfl, by show I _ _ _; rw [show lossP Lx (s0 + 1) 0 = [] from rfl, List.append_nil]; exact hI2.out, hK2, q02, q12, far, far1, hsz2⟩
    case round =>
     obtain ⟨i, gg, hi, rfl, hIx, hKx, q0x, q1x, fa0, fa1, hszx⟩ := hrel
     clear hI2 hK2 q02 q12 far far1 hsz2
     by_cases hin : i < n1
     ·obtain ⟨v1, hv1⟩ : ∃ x, (Lx (s0 + 1))[i]? = some x := ⟨_, List.getElem?_eq_getElem (by have := q1x.out.1; omega)⟩
      obtain ⟨v0, hv0⟩ : ∃ x, (Lx s0)[i]? = some x := ⟨_, List.getElem?_eq_getElem (by have := q0x.out.1; omega)⟩
      have d1 := sl_at q1x.out hv1
      have d0 := sl_at q0x.out hv0
      have hiI : (i : Int) < (n1 : Int) := by omega
      have hi0 : (0 : Int) ≤ (i : Int) := by omega
      have hat1 : atI (Lx (s0 + 1)) i = v1 := atI_of hv1
      have hat0 : atI (Lx (s0 + 1 - 1)) i = v0 := by rw [show s0 + 1 - 1 = s0 by omega]; exact atI_of hv0
      clear hv0 hv1
      by_cases hxx : v1 < v0
      ·have HPP : Hid (lossP Lx (s0 + 1) (i + 1) = lossP Lx (s0 + 1) i ++ [(s0 + 1, (i : Int))]) := lossP_yes (by rw [hat1, hat0]; exact hxx)
       have HPRE : Hid ((lossG D Lx n1 a t ++ lossP Lx (s0 + 1) i) ++ [(s0 + 1, (i : Int))] <+: lossG D Lx n1 a T) := HHERE.out i hin (by rw [hat1, hat0]; exact hxx) (by trivial) (by trivial)
       have hlen9 : (lossG D Lx n1 a t ++ lossP Lx (s0 + 1) i).length ≤ 100000 := by
        have h1 := lossP_len (Lx := Lx) (s := s0 + 1) (i := i)
        have h2 := HLL.out
        rw [List.length_append]
        omega
       obtain ⟨fn, tmps, assign, body, hy', hR⟩ := HY.out _ gg wr (s0 + 1) i hlen9 hIx.out
       have hy : (Instr.yield l #[.agg #[.int .i64 (s0 + 1), .int .i64 (i : Int)]]).run Tryz.prog wr = .ok (.round l fn tmps assign body) wr := hy'
       have HIN := Lib.hid hin
       clear hy' hat0 hat1 hlen9 hin hi
       go_upto_region 13 with (fail)
       refine (wpIn_wide (n := 3)).1 ?_
       gi_wp2
       refine hR.mono ?_
       clear hR hy d0 d1
       rintro e w6 ⟨bb, rfl, hq⟩
       rcases hq with ⟨rfl, hl6, g3, hg3, hI6⟩ | ⟨rfl, hD6⟩
       ·have hB : ∀ q, (theirs q ∨ some q = gg) → B0 ≤ q := fun q h => by
         rcases h with h | h
         ·exact (HTH.out _ h).1
         ·exact (HG.out _ _ _ hIx.out q h.symm).1
        have no0 : ∀ (A9 : Option Addr) (hf : Far gg A9) (hh : ∀ q, A9 = some q → W0.heap.size ≤ q.block) (q : Addr), A9 = some q → ¬ (theirs q.block ∨ some q.block = gg) := fun A9 hf hh q e h => by
         rcases h with h | h
         ·have := (HTH.out _ h).2
          have := hh q e
          omega
         ·exact hf q.block q h.symm e rfl
        have hK6 := Lib.hid (hKx.out.keepP hl6 hB)
        have q06 := Lib.hid (q0x.out.keepP hl6 (no0 _ fa0.out f0.out))
        have q16 := Lib.hid (q1x.out.keepP hl6 (no0 _ fa1.out f12.out))
        have far6 : ∀ (A9 : Option Addr) (n9 : Nat) (L9 : List Int) (hs9 : Sl wr .i64 A9 n9 L9) (h9 : 0 < n9) (hf : Far gg A9), Far g3 A9 := fun A9 n9 L9 hs9 h9 hf q a hq ha => by
         rcases hg3 with rfl | hg3
         ·exact hf q a hq ha
         ·have h1 := hg3 q hq
          obtain ⟨a', e', hlt', _⟩ := hs9.2 h9
          rw [ha] at e'
          cases e'
          omega
        have fa06 := Lib.hid (far6 _ _ _ q0x.out hn0 fa0.out)
        have fa16 := Lib.hid (far6 _ _ _ q1x.out hn0 fa1.out)
        have hsz6 : Hid (W0.heap.size ≤ w6.heap.size) := Nat.le_trans hszx.out hl6.size
        have hI66 := Lib.hid hI6
        clear far6 no0 hB hg3 hl6 hI6 hIx hKx q0x q1x fa0 fa1 hszx
        gi_wp2
        go_wp2
        go_roundw
        case rel => exact ⟨i + 1, g3, HIN.out, by go_num, by show I _ _ _; rw [HPP.out, ← List.append_assoc]; exact hI66.out, hK6, q06, q16, fa06, fa16, hsz6⟩
        case measure => have := HIN.out; simp [intOf]; omega
       ·have HD6 := Lib.hid hD6
        clear hD6
        gi_wp2
        go_wp2
        rw [Exit.noGoto_ret]
        refine bodyPost_ret (results_none rfl _ _ _) rfl ?_
        exact ⟨_, rfl, .inr ⟨_, _, HPRE.out, HD6.out⟩⟩
      ·have HPP : Hid (lossP Lx (s0 + 1) (i + 1) = lossP Lx (s0 + 1) i) := lossP_no (by rw [hat1, hat0]; exact hxx)
       have hxb : decide (v1 < v0) = false := by simp [hxx]
       clear hat0 hat1
       go_wp2
       go_roundw
       case rel => exact ⟨i + 1, gg, by omega, by go_num, by rw [HPP.out]; exact hIx, hKx, q0x, q1x, fa0, fa1, hszx⟩
       case measure => simp [intOf]; omega
     ·obtain rfl : i = n1 := by omega
      go_wp2
      go_roundw
      case rel => exact ⟨t + 1, gg, _, i, c5, by have := HLT.out; omega, by rw [HNX.out], by rw [HNX.out, HE1.out], rfl, by rw [HNX.out]; exact q1x, f12, fa1, by rw [HGG.out]; exact hIx, hKx, hszx⟩
      case measure => simp [intOf]; omega
   ·have HGG : Hid (lossG D Lx n a (t + 1) = lossG D Lx n a t) := HGn.out hb
    by_cases h0 : e0 = 0
    ·subst h0
     have h1 : ¬ e1 = 0 := fun h => hb ⟨rfl, h⟩
     have h1b : (e1 == 0) = false := by simpa using h1
     clear hb HGn HGm HHERE hn0' hn1'
     go_wp2
     go_roundw
     case rel => exact ⟨t + 1, g, A1, n1, c5, by have := HLT.out; omega, by rw [HNX.out], by rw [HNX.out, HE1.out], rfl, by rw [HNX.out]; exact q12, f12, far1, by rw [HGG.out]; exact hI2, hK2, hsz2⟩
     case measure => simp [intOf]; omega
    ·have h0b : (e0 == 0) = false := by simpa using h0
     clear hb HGn HGm HHERE hn0' hn1'
     go_wp2
     go_roundw
     case rel => exact ⟨t + 1, g, A1, n1, c5, by have := HLT.out; omega, by rw [HNX.out], by rw [HNX.out, HE1.out], rfl, by rw [HNX.out]; exact q12, f12, far1, by rw [HGG.out]; exact hI2, hK2, hsz2⟩
     case measure => simp [intOf]; omega
  ·obtain rfl : t = T := by omega
   have hz1 : ¬ a + (t : Int) + 1 ≤ z := by have := HZ.out; omega
   go_wp2
   refine bodyPost_end (results_none rfl _ _ _) rfl ?_
   exact ⟨_, rfl, .inl ⟨g, hIt.out⟩⟩
end Go.Proofs.YteocdndanehpnaaGreat
