/- Several texts in one: Inv2I, RdCl. -/
import Derived.OrdersIn
import Derived.RangeFuncGives
import Derived.RangeFuncCalls
import Derived.LoopNIn
import Derived.LoopIn
import Derived.TacticsInMore
import Derived.WalkMore
import Derived.Test.YtpmbglhbcjbkcaaGreatH36
namespace Go.Proofs.YtpmbglhbcjbkcaaGreat
set_option maxHeartbeats 16000000
set_option maxRecDepth 100000
open Go.RowKit
set_option linter.unusedSimpArgs false
section
variable {P : Program} {ops : Array Oper} {Q : Exit → Act → World → Prop}
def ziC (P : Program) (ops : Array Oper) (Q : Exit → Act → World → Prop) (I : Nat → Act → World → Prop) (i : Nat) : Prop :=
 ∀ (o : Oper) (m : Nat) (a : Act) (w : World), ops[i]? = some o → m.testBit i = false → (∀ j ∈ ((zaQ ops)[i]?).getD [], m.testBit j = true) → I m a w →
  wpOpIn Fence.wide 3 P ops Q i (I (m ||| 2 ^ i)) a w
theorem zjs {n : Nat} (hn : ops.size = n) {tbl : List (List Nat)} (ht : zaQ ops = tbl) (hd : ((List.range n).all fun i => ((tbl[i]?).getD []).all fun j => decide (j < i)) = true)
  {I : Nat → Act → World → Prop} (hstep : ∀ i, i < n → ziC P ops Q I i) (hend : ∀ m a w, (∀ i, i < n → m.testBit i = true) → I m a w → Q .normal a w) :
  ∀ (fuel : Nat) (listed : Array Bool) (m : Nat) (a : Act) (w : World), MaskIs listed n m → zkk n m ≤ fuel → I m a w → wpAnyIn Fence.wide 3 P .any ops Q fuel listed a w := by
 have hready : ∀ (listed : Array Bool) (m : Nat), MaskIs listed n m → Region.ready .any ops listed = [] → ∀ i, i < n → m.testBit i = true := by
  intro listed m hm hr i
  induction i using Nat.strongRecOn with
  | ind i ih =>
    intro hi
    cases hb : m.testBit i with
    | true => rfl
    | false =>
      exfalso
      have hlt : i < ops.size := by omega
      have : i ∈ Region.ready .any ops listed := by
       refine mem_ready.2 ⟨by rw [hm.getD hi, hb], ops[i], Array.getElem?_eq_getElem hlt, fun e he hbd => ?_⟩
       have hmem : e.on ∈ ((tbl[i]?).getD []) := by
        rw [← ht]
        unfold zaQ
        rw [List.getElem?_map, Array.getElem?_toList, Array.getElem?_eq_getElem hlt]
        simp only [Option.map_some, Option.getD_some]
        exact List.mem_map.2 ⟨e, List.mem_filter.2 ⟨Array.mem_toList_iff.2 he, hbd⟩, rfl⟩
       have h1 := List.all_eq_true.1 hd i (List.mem_range.2 hi)
       have h2 := of_decide_eq_true (List.all_eq_true.1 h1 _ hmem)
       rw [hm.getD (by omega)]
       exact ih _ h2 (by omega)
      rw [hr] at this
      cases this
 intro fuel
 induction fuel with
 | zero =>
   intro listed m a w hm hl hI
   have hall := zgE (Nat.le_zero.1 hl)
   refine ⟨?_, hend _ _ _ hall hI⟩
   refine List.eq_nil_iff_forall_not_mem.2 fun i hi => ?_
   obtain ⟨h1, o, h2, _⟩ := mem_ready.1 hi
   have hin : i < n := by rw [← hn]; exact (Array.getElem?_eq_some_iff.1 h2).1
   rw [hm.getD hin, hall i hin] at h1
   cases h1
 | succ fuel ih =>
   intro listed m a w hm hl hI
   refine ⟨fun hr => hend _ _ _ (hready listed m hm hr) hI, fun i hi => ?_⟩
   obtain ⟨h1, o, h2, h3⟩ := mem_ready.1 hi
   have hin : i < n := by rw [← hn]; exact (Array.getElem?_eq_some_iff.1 h2).1
   rw [hm.getD hin] at h1
   refine wpOpIn_mono (fun a' w' h => ih _ _ a' w' (hm.set i) ?_ h) (hstep i hin o m a w h2 h1 ?_ hI)
   ·have := zfc hin h1; omega
   ·intro j hj
    have hj' : ∃ e ∈ o.after, Region.binds .any e = true ∧ e.on = j := by
     unfold zaQ at hj
     rw [List.getElem?_map, Array.getElem?_toList, h2] at hj
     simp only [Option.map_some, Option.getD_some] at hj
     obtain ⟨e, he, rfl⟩ := List.mem_map.1 hj
     obtain ⟨h4, h5⟩ := List.mem_filter.1 he
     exact ⟨e, Array.mem_toList_iff.1 h4, h5, rfl⟩
    obtain ⟨e, he, hb, rfl⟩ := hj'
    have h4 := h3 e he hb
    by_cases hjn : e.on < n
    ·rw [hm.getD hjn] at h4; exact h4
    ·rw [Array.getD_eq_getD_getElem?, Array.getElem?_eq_none (by rw [hm.size]; omega)] at h4
     cases h4
theorem zew {id : Nat} {a : Act} {w : World} (n : Nat) (tbl : List (List Nat)) (I : Nat → Act → World → Prop) (hm : P.follows .mixedOrders = true) (hn : ops.size = n) (ht : zaQ ops = tbl)
  (hd : ((List.range n).all fun i => ((tbl[i]?).getD []).all fun j => decide (j < i)) = true) (h0 : I 0 a w.drew) (hstep : ∀ i, i < n → ziC P ops Q I i)
  (hend : ∀ m a w, (∀ i, i < n → m.testBit i = true) → I m a w → Q .normal a w) : (Code.region id ops true).wpIn Fence.wide 3 P Q a w := by
 refine wpIn_region_any hm ?_
 refine zjs hn ht hd hstep hend _ _ 0 _ _ (by rw [hn]; exact MaskIs.zero n) ?_ h0
 rw [hn]
 exact Nat.le_trans List.countP_le_length (by simp)
end
theorem zdf {P : Program} {ops : Array Oper} {Q : Exit → Act → World → Prop} {id : Nat} {a : Act} {w : World} (rows : List SRow) (base : List (Nat × Value)) (N n : Nat) (tbl : List (List Nat))
  (hm : P.follows .mixedOrders = true) (o8 : Oper) (ho8 : ops[n]? = some o8) (hg8 : o8.guard = none) (o9 : Oper) (ho9 : ops[n + 1]? = some o9) (hg9 : o9.guard = none) (hn : ops.size = n + 2) (ht : zaQ ops = tbl) (h89 : ((tbl[n + 1]?).getD []).contains n = true) (hd : ((List.range (n + 2)).all fun i => ((tbl[i]?).getD []).all fun j => decide (j < i)) = true)
  (hup : ((List.range n).all fun i => (List.range (n + 1)).any fun k => decide (i < k) && ((tbl[k]?).getD []).contains i) = true) (hk : (ops.toList.take n).map zbQ = rows.map SRow.key)
  (hdis : distinct rows base N = true) (hsz : a.tmps.size = N) (hdf : a.defers = []) (hb : ∀ k v, base.lookup k = some v → Slot a k v) (hstep : AllSteps P rows base w rows)
  (hend : ∀ a W, a.tmps.size = N → a.defers = [] → Lat w W → (∀ k v, base.lookup k = some v → Slot a k v) → (∀ (j : Nat) r d, rows[j]? = some r → r.dst = some d → ∃ v, Slot a d v ∧ r.V v W) → o8.wpIn Fence.wide 3 P a W (fun a' w' => o9.wpIn Fence.wide 3 P a' w' (fun a2 w2 => Q .normal a2 w2) Q) Q) : (Code.region id ops true).wpIn Fence.wide 3 P Q a w := by
 have hrow : ∀ {i : Nat} {o : Oper}, i < n → ops[i]? = some o → ∃ r, rows[i]? = some r ∧ zbQ o = r.key := by
  intro i o hi ho
  have h1 : ((ops.toList.take n).map zbQ)[i]? = some (zbQ o) := by simp [ho, List.getElem?_take, hi]
  rw [hk, List.getElem?_map] at h1
  cases hr : rows[i]? with
  | none => rw [hr] at h1; cases h1
  | some r => rw [hr] at h1; simp only [Option.map_some, Option.some.injEq] at h1; exact ⟨r, rfl, h1.symm⟩
 simp only [distinct, Bool.and_eq_true] at hdis
 obtain ⟨hdis1, hdis2⟩ := hdis
 have hdst : ∀ {i : Nat} {r : SRow} {d : Tmp}, rows[i]? = some r → r.dst = some d → d < N ∧ base.lookup d = none := by
  intro i r d h1 h2
  have := List.all_eq_true.1 hdis1 d (List.mem_filterMap.2 ⟨r, List.mem_of_getElem? h1, h2⟩)
  simpa using this
 have hlen : rows.length = n := by
  have := congrArg List.length hk
  simp at this
  omega
 have hreach : ∀ m : Nat, (∀ i, m.testBit i = true → ∀ j ∈ (tbl[i]?).getD [], m.testBit j = true) → (∀ j ∈ (tbl[n]?).getD [], m.testBit j = true) → ∀ i, i < n → m.testBit i = true := by
  intro m hcl hde
  have : ∀ d i, i < n → n - i = d → m.testBit i = true := by
   intro d
   induction d using Nat.strongRecOn with
   | ind d ih =>
     intro i hi hd0
     have h1 := List.all_eq_true.1 hup i (List.mem_range.2 hi)
     obtain ⟨k, hk1, hk2⟩ := List.any_eq_true.1 h1
     have hk3 := List.mem_range.1 hk1
     simp only [Bool.and_eq_true, decide_eq_true_eq, List.contains_eq_mem] at hk2
     by_cases hkn : k = n
     ·subst hkn; exact hde i hk2.2
     ·exact hcl k (ih (n - k) (by omega) k (by omega) rfl) i hk2.2
  exact fun i hi => this _ i hi rfl
 have hstart : zeV rows base N w 0 a w.drew := ⟨hsz, hdf, Lat.drew w, hb, fun j r d h => by rw [Nat.zero_testBit] at h; cases h⟩
 let J : Nat → Act → World → Prop := fun m a W => (m.testBit n = false ∧ m.testBit (n + 1) = false ∧ (∀ i, m.testBit i = true → ∀ j ∈ (tbl[i]?).getD [], m.testBit j = true) ∧ zeV rows base N w m a W) ∨ ((∀ i, i < n + 1 → m.testBit i = true) ∧ m.testBit (n + 1) = false ∧ o9.wpIn Fence.wide 3 P a W (fun a2 w2 => Q .normal a2 w2) Q) ∨ ((∀ i, i < n + 2 → m.testBit i = true) ∧ Q .normal a W)
 refine zew (I := J) (n := n + 2) (tbl := tbl) (hm := hm) (hn := hn) (ht := ht) (hd := hd) (h0 := .inl ⟨by simp, by simp, fun i hi => (by rw [Nat.zero_testBit] at hi; cases hi), hstart⟩) ?_ ?_
 ·intro i hi o m a w1 ho hmi hdeps hJ
  have hdepsT : ∀ j ∈ (tbl[i]?).getD [], m.testBit j = true := by rw [← ht]; exact hdeps
  rcases hJ with ⟨hbn, hbn1, hcl, hI⟩ | ⟨hall, hb1, hQ⟩ | ⟨hall, _⟩
  case inr.inr => rw [hall i hi] at hmi; cases hmi
  case inr.inl =>
   by_cases hin : i = n + 1
   ·subst hin
    obtain rfl : o = o9 := by rw [ho] at ho9; cases ho9; rfl
    unfold wpOpIn
    rw [ho]
    have hw : Region.wanted o (yielded ops a.tmps) = true := by unfold Region.wanted; rw [hg9]
    simp only [if_pos hw]
    refine (Oper.wpIn_mono (fun a' w' h => Or.inr (Or.inr ⟨fun k hk => ?_, h⟩)) hQ)
    rw [Nat.testBit_or, Nat.testBit_two_pow]
    by_cases e : n + 1 = k
    ·simp [e]
    ·rw [hall k (by omega)]; rfl
   ·rw [hall i (by omega)] at hmi; cases hmi
  by_cases hin1 : i = n + 1
  ·subst hin1
   have h1 : n ∈ (tbl[n + 1]?).getD [] := by simpa [List.contains_eq_mem] using h89
   rw [hdepsT n h1] at hbn; cases hbn
  by_cases hin : i = n
  ·subst hin
   have hall := hreach m hcl hdepsT
   have hl := hend a w1 hI.size hI.defers hI.lat hI.base (fun j r d h1 h2 => hI.slot j r d (hall j (by rw [← hlen]; exact (List.getElem?_eq_some_iff.1 h1).1)) h1 h2)
   obtain rfl : o = o8 := by rw [ho] at ho8; cases ho8; rfl
   unfold wpOpIn
   rw [ho]
   have hw : Region.wanted o (yielded ops a.tmps) = true := by unfold Region.wanted; rw [hg8]
   simp only [if_pos hw]
   refine (Oper.wpIn_mono (fun a' w' h => Or.inr (Or.inl ⟨fun k hk => ?_, ?_, h⟩)) hl)
   rotate_left
   ·rw [Nat.testBit_or, Nat.testBit_two_pow, hbn1]; simp
   rw [Nat.testBit_or, Nat.testBit_two_pow]
   by_cases e : i = k
   ·simp [e]
   ·rw [hall k (by omega)]; rfl
  have hi : i < n := by omega
  have hlift : ∀ a' W', zeV rows base N w (m ||| 2 ^ i) a' W' → J (m ||| 2 ^ i) a' W' := by
   intro a' W' h
   refine .inl ⟨?_, ?_, fun k hk j hj => ?_, h⟩
   ·rw [Nat.testBit_or, Nat.testBit_two_pow, hbn]
    simp [hin]
   ·rw [Nat.testBit_or, Nat.testBit_two_pow, hbn1]
    simp; omega
   ·rw [Nat.testBit_or, Nat.testBit_two_pow] at hk
    have : m.testBit j = true := by
     by_cases e : i = k
     ·subst e; exact hdepsT j hj
     ·rw [Bool.or_eq_true] at hk
      rcases hk with hk | hk
      ·exact hcl k hk j hj
      ·exact absurd (of_decide_eq_true hk) e
    rw [Nat.testBit_or, this]; rfl
  obtain ⟨r, hr, hkey⟩ := hrow hi ho
  obtain ⟨S1, S2, S3⟩ := hstep.get r (List.mem_of_getElem? hr)
  unfold SRow.key zbQ at hkey
  simp only [Prod.mk.injEq] at hkey
  obtain ⟨ke1, ke2, ke3, ke4⟩ := hkey
  have hdeps' : ∀ j ∈ r.deps, m.testBit j = true := by
   intro j hj
   refine hdeps j ?_
   unfold zaQ
   rw [List.getElem?_map, Array.getElem?_toList, ho]
   simp only [Option.map_some, Option.getD_some]
   rw [ke4]
   exact hj
  have hw : Region.wanted o (yielded ops a.tmps) = true := by
   unfold Region.wanted
   cases hg : o.guard with
   | none => rfl
   | some p =>
     obtain ⟨j, b⟩ := p
     obtain ⟨rj, h1, ⟨d, h2⟩, h3, h4⟩ := S2 j b (by rw [← ke3, hg])
     obtain ⟨v, h5, h6⟩ := hI.slot j rj d (hdeps' j h3) h1 h2
     have h7 := h4 v w1 h6
     subst h7
     have hjn : j < n := by rw [← hlen]; exact (List.getElem?_eq_some_iff.1 h1).1
     have hj : j < ops.size := by omega
     obtain ⟨rj', h8, h9⟩ := hrow hjn (Array.getElem?_eq_getElem hj)
     rw [h1] at h8
     cases h8
     unfold SRow.key zbQ at h9
     simp only [Prod.mk.injEq] at h9
     unfold yielded
     unfold Slot at h5
     have hd0 : ops[j].dst = some d := by rw [h9.2.1, h2]
     simp only [Array.getElem?_eq_getElem hj, Option.bind_some, hd0, h5]
     cases b <;> rfl
  have hput : ∀ v w', Lat w1 w' → (r.dst.isSome = true → r.V v w') → zeV rows base N w (m ||| 2 ^ i) (a.put o.dst v) w' := by
   intro v w' hl hv
   have hmono : ∀ j rj d, (m ||| 2 ^ i).testBit j = true → j ≠ i → rows[j]? = some rj → rj.dst = some d → ∃ v, Slot a d v ∧ rj.V v w' := by
    intro j rj d hj hne h1 h2
    have hj' : m.testBit j = true := by
     rw [Nat.testBit_or, Nat.testBit_two_pow] at hj
     have : ¬ i = j := fun e => hne e.symm
     simpa [this] using hj
    obtain ⟨u, h3, h4⟩ := hI.slot j rj d hj' h1 h2
    obtain ⟨T1, _, _⟩ := hstep.get rj (List.mem_of_getElem? h1)
    exact ⟨u, h3, T1 u _ _ h4 hl⟩
   cases hdd : r.dst with
   | none =>
     rw [hdd] at ke2
     rw [ke2]
     refine ⟨hI.size, hI.defers, hI.lat.trans hl, hI.base, fun j rj d hj h1 h2 => ?_⟩
     by_cases hne : j = i
     ·subst hne
      rw [hr] at h1; cases h1
      rw [hdd] at h2; cases h2
     ·exact hmono j rj d hj hne h1 h2
   | some d0 =>
     rw [hdd] at ke2
     rw [ke2]
     obtain ⟨hd0, hd1⟩ := hdst hr hdd
     have hv' := hv (by rw [hdd]; rfl)
     refine ⟨by simp [Act.put, hI.size], by simp [Act.put, hI.defers], hI.lat.trans hl, fun k u hk => ?_, fun j rj d hj h1 h2 => ?_⟩
     ·have := hI.base k u hk
      unfold Slot at this ⊢
      simp only [Act.put]
      rw [Array.getElem?_setIfInBounds_ne (fun e => by subst e; rw [hd1] at hk; cases hk)]
      exact this
     ·by_cases hne : j = i
      ·subst hne
       rw [hr] at h1; cases h1
       rw [hdd] at h2; cases h2
       refine ⟨v, ?_, hv'⟩
       unfold Slot
       simp [Act.put, hI.size, hd0]
      ·obtain ⟨u, h3, h4⟩ := hmono j rj d hj hne h1 h2
       refine ⟨u, ?_, h4⟩
       unfold Slot at h3 ⊢
       simp only [Act.put]
       rw [Array.getElem?_setIfInBounds_ne (fun e => by subst e; exact hne (zdE hdis2 h1 hr h2 hdd))]
       exact h3
  have hruns := S3 a w1 hI.lat (fun k v hk => (hI.base k v hk).ev) (fun j rj d hj h1 h2 => by
   obtain ⟨v, h3, h4⟩ := hI.slot j rj d (hdeps' j hj) h1 h2
   exact ⟨v, h3.ev, h4⟩) o ke1
  unfold wpOpIn
  rw [ho]
  simp only [if_pos hw]
  refine ⟨fun _ _ => trivial, ?_⟩
  rw [show Fence.wide.round = none from rfl, Oper.semAt_none]
  rcases hruns with ⟨v, w', h1, h2, h3⟩ | ⟨f, args, h1, h2⟩
  ·rw [h1, Oper.uponIn_value]
   exact hlift _ _ (hput v w' h2 h3)
  ·rw [h1, Oper.uponIn_enter]
   refine ⟨fun h => by simp [Fence.wide] at h, callsIn_wide.2 (h2.mono fun e w' h => ?_)⟩
   obtain ⟨v, rfl, h3, h4⟩ := h
   exact hlift _ _ (hput v w' h3 h4)
 ·intro m a W hall hJ
  rcases hJ with ⟨hbn, _, _⟩ | ⟨_, hb1, _⟩ | ⟨_, h⟩
  ·rw [hall n (by omega)] at hbn; cases hbn
  ·rw [hall (n + 1) (by omega)] at hb1; cases hb1
  ·exact h
set_option linter.unusedVariables false
def RTV (x y : Int) (N : Nat) (v : Value) (w : World) : Prop := ∃ b A n c b' A' n' c', v = .agg #[.bool b, .slice A n c, .bool b', .slice A' n' c'] ∧ Lg w b A n c x ∧ n ≤ N ∧ Lg w b' A' n' c' y ∧ n' ≤ N
theorem RTV.mono {x y : Int} {N : Nat} {v : Value} {w w' : World} (h : RTV x y N v w) (hl : Lat w w') : RTV x y N v w' := by
 obtain ⟨b, A, n, c, b', A', n', c', e, h1, h2, h3, h4⟩ := h
 exact ⟨b, A, n, c, b', A', n', c', e, h1.later hl, h2, h3.later hl, h4⟩
theorem RatPost.runR {w w' : World} {x y : Int} {N : Nat} {e : Ending} {d : Prop} (h : RatPost w x y N e w') : ∃ v, e = .returned v ∧ (Lat w w' ∧ (d → RTV x y N v w')) := by
 obtain ⟨b, A, n, c, b', A', n', c', e, h1, h2, h3, h4, hl⟩ := h
 exact ⟨_, e, hl, fun _ => ⟨b, A, n, c, b', A', n', c', rfl, h1, h2, h3, h4⟩⟩
def za1 : List Nat := [32, 64, 128, 256, 400]
theorem idxK {i : Nat} (h : i < 5) : ∃ k : Nat, za1[i]? = some k ∧ k ≤ 400 ∧ ∀ w, (Instr.index 118 (.agg #[.int .i64 32, .int .i64 64, .int .i64 128, .int .i64 256, .int .i64 400]) (.int .i64 (i : Nat))).run Tryz.prog w = .ok (.int .i64 (k : Nat)) w := by
 have hk : i = 0 ∨ i = 1 ∨ i = 2 ∨ i = 3 ∨ i = 4 := by omega
 rcases hk with rfl | rfl | rfl | rfl | rfl
 ·exact ⟨32, rfl, by omega, fun w => by unfold Instr.index; go_simp⟩
 ·exact ⟨64, rfl, by omega, fun w => by unfold Instr.index; go_simp⟩
 ·exact ⟨128, rfl, by omega, fun w => by unfold Instr.index; go_simp⟩
 ·exact ⟨256, rfl, by omega, fun w => by unfold Instr.index; go_simp⟩
 ·exact ⟨400, rfl, by omega, fun w => by unfold Instr.index; go_simp⟩
def zhK (l : Nat) (L : List (Int × Int)) (I : Nat → World → Prop) (D : World → Prop) : Prop :=
 ∀ (j k : Nat) (W : World) (b1 : Bool) (A1 : Option Addr) (n1 c1 : Nat) (b2 : Bool) (A2 : Option Addr) (n2 c2 : Nat) (b3 : Bool) (A3 : Option Addr) (n3 c3 : Nat) (b4 : Bool) (A4 : Option Addr) (n4 c4 : Nat), j < 5 → za1[j]? = some k → I j W →
  Lg W b1 A1 n1 c1 (zaT (sLo L k) (2 ^ k)) → n1 ≤ 20000 → Lg W b2 A2 n2 c2 (zaU (sLo L k) (2 ^ k)) → n2 ≤ 20000 → Lg W b3 A3 n3 c3 (zaT (sHi L k) (2 ^ k)) → n3 ≤ 20000 → Lg W b4 A4 n4 c4 (zaU (sHi L k) (2 ^ k)) → n4 ≤ 20000 →
  YieldAt Fence.wide 2 Tryz.prog l #[.agg #[.bool b1, .slice A1 n1 c1, .bool b2, .slice A2 n2 c2], .agg #[.bool b3, .slice A3 n3 c3, .bool b4, .slice A4 n4 c4]] W (fun e W' => ∃ b, e = .returned (.bool b) ∧ ((b = true ∧ I (j + 1) W') ∨ (b = false ∧ D W')))
theorem ziy (k : Nat) : (2 : Int) ^ k ≠ 0 := by have := Int.pow_pos (n := 2) (m := k) (by decide); omega
theorem zmt {P : Program} {o : Oper} {a : Act} {W : World} {v : Value} {next : Act → World → Prop} {Q : Exit → Act → World → Prop} {n : Nat} (hrun : (execOp a.eval o).run P W = .ok (.value v) W) (h : next (a.put o.dst v) W) : o.wpIn Fence.wide n P a W next Q :=
 ⟨fun _ _ => trivial, by rw [show Fence.wide.round = none from rfl, Oper.semAt_none, hrun, Oper.uponIn_value]; exact h⟩
theorem znO (T : Array Value) (h : T.size = 31) : ∃ f : Nat → Value, (∀ k, f k = T.getD k undef) ∧ T = #[f 0, f 1, f 2, f 3, f 4, f 5, f 6, f 7, f 8, f 9, f 10, f 11, f 12, f 13, f 14, f 15, f 16, f 17, f 18, f 19, f 20, f 21, f 22, f 23, f 24, f 25, f 26, f 27, f 28, f 29, f 30] := ⟨fun k => T.getD k undef, fun _ => rfl, (spell 31 T h).trans (by kernel_rfl)⟩
noncomputable def zf9 (lp g5 g6 g7 : Nat) (bl : Bool) (Al : Option Addr) (nl cl : Nat) (bh : Bool) (Ah : Option Addr) (nh ch : Nat) (bu : Bool) (Au : Option Addr) (nu cu : Nat) (x y z : Int) (N : Nat) : List SRow := [
 ⟨.move (.tmp 0), some 21, none, [], fun v _ => v = .func (.yield lp) #[] #[]⟩,
 ⟨.load 88 (.tmp 5), some 22, none, [], fun v _ => v = .agg #[.bool bl, .slice Al nl cl]⟩,
 ⟨.load 88 (.tmp 7), some 23, none, [], fun v _ => v = .agg #[.bool bu, .slice Au nu cu]⟩,
 ⟨.call { callee := .value (.func 36), args := #[.tmp 22, .tmp 23], argTypes := #[88, 88] }, some 24, none, [1, 2], RTV (zaT x z) (zaU x z) N⟩,
 ⟨.load 88 (.tmp 6), some 25, none, [], fun v _ => v = .agg #[.bool bh, .slice Ah nh ch]⟩,
 ⟨.load 88 (.tmp 7), some 26, none, [], fun v _ => v = .agg #[.bool bu, .slice Au nu cu]⟩,
 ⟨.call { callee := .value (.func 36), args := #[.tmp 25, .tmp 26], argTypes := #[88, 88] }, some 27, none, [4, 5, 3], RTV (zaT y z) (zaU y z) N⟩]
noncomputable def ziD (lp g5 g6 g7 : Nat) (bl : Bool) (Al : Option Addr) (nl cl : Nat) (bh : Bool) (Ah : Option Addr) (nh ch : Nat) (bu : Bool) (Au : Option Addr) (nu cu : Nat) (x y z : Int) (N : Nat) (v1 v2 v3 v4 v8 v9 v10 v11 v12 v13 v14 v15 v16 v17 v18 v19 v20 v28 v29 v30 : Value) : List (Nat × Value) := [(0, .func (.yield lp) #[] #[]), (5, .pointer (some ⟨g5, 0, none⟩)), (6, .pointer (some ⟨g6, 0, none⟩)), (7, .pointer (some ⟨g7, 0, none⟩)), (1, v1), (2, v2), (3, v3), (4, v4), (8, v8), (9, v9), (10, v10), (11, v11), (12, v12), (13, v13), (14, v14), (15, v15), (16, v16), (17, v17), (18, v18), (19, v19), (20, v20), (28, v28), (29, v29), (30, v30)]
theorem zlc (V : World) (lp g5 g6 g7 : Nat) (bl : Bool) (Al : Option Addr) (nl cl : Nat) (bh : Bool) (Ah : Option Addr) (nh ch : Nat) (bu : Bool) (Au : Option Addr) (nu cu : Nat) (x y z : Int) (N : Nat) (v1 v2 v3 v4 v8 v9 v10 v11 v12 v13 v14 v15 v16 v17 v18 v19 v20 v28 v29 v30 : Value) (RL : ∀ w', Lat V w' → w'.rangeAt g5 0 [.bool bl, .slice Al nl cl]) (RH : ∀ w', Lat V w' → w'.rangeAt g6 0 [.bool bh, .slice Ah nh ch]) (RU : ∀ w', Lat V w' → w'.rangeAt g7 0 [.bool bu, .slice Au nu cu]) (J2 : (Tryz.prog.info? 88).map (·.size) = some 2)
  (HLO : ∀ w, Lat V w → Calls Tryz.prog 36 #[.agg #[.bool bl, .slice Al nl cl], .agg #[.bool bu, .slice Au nu cu]] w (RatPost w (zaT x z) (zaU x z) N)) (HHI : ∀ w, Lat V w → Calls Tryz.prog 36 #[.agg #[.bool bh, .slice Ah nh ch], .agg #[.bool bu, .slice Au nu cu]] w (RatPost w (zaT y z) (zaU y z) N)) :
  AllSteps Tryz.prog (zf9 lp g5 g6 g7 bl Al nl cl bh Ah nh ch bu Au nu cu x y z N) (ziD lp g5 g6 g7 bl Al nl cl bh Ah nh ch bu Au nu cu x y z N v1 v2 v3 v4 v8 v9 v10 v11 v12 v13 v14 v15 v16 v17 v18 v19 v20 v28 v29 v30) V (zf9 lp g5 g6 g7 bl Al nl cl bh Ah nh ch bu Au nu cu x y z N) := by
 refine nS ?_ fun a w hl hb hd o ho => by have e1 := hb 0 _ rfl; exact rp1 o ho e1 fun ev ec e1 d ty p af g => by unfold execOp; simp only [e1, ec]; go_simp
 refine nS ?_ fun a w hl hb hd o ho => by have e1 := hb 5 _ rfl; exact Runs.val (zah (S := Lat V) e1 RL Tryz.underlying88 rfl J2 o w ho hl) ⟨Lat.refl _, fun _ => rfl⟩
 refine nS ?_ fun a w hl hb hd o ho => by have e1 := hb 7 _ rfl; exact Runs.val (zah (S := Lat V) e1 RU Tryz.underlying88 rfl J2 o w ho hl) ⟨Lat.refl _, fun _ => rfl⟩
 refine nS ?_ fun a w hl hb hd o ho => by obtain ⟨_, e1, rfl⟩ := hd 1 _ _ (by simp) rfl rfl; obtain ⟨_, e2, rfl⟩ := hd 2 _ _ (by simp) rfl rfl; exact Runs.call (zan (f := 36) (fun _ => by go_simp) o ho (by simp only [List.map_toArray, List.map_cons, List.map_nil, eval_const, e1, e2])) ((HLO w hl).mono fun e w' h => h.runR)
 refine nS ?_ fun a w hl hb hd o ho => by have e1 := hb 6 _ rfl; exact Runs.val (zah (S := Lat V) e1 RH Tryz.underlying88 rfl J2 o w ho hl) ⟨Lat.refl _, fun _ => rfl⟩
 refine nS ?_ fun a w hl hb hd o ho => by have e1 := hb 7 _ rfl; exact Runs.val (zah (S := Lat V) e1 RU Tryz.underlying88 rfl J2 o w ho hl) ⟨Lat.refl _, fun _ => rfl⟩
 refine nS ?_ fun a w hl hb hd o ho => by obtain ⟨_, e1, rfl⟩ := hd 4 _ _ (by simp) rfl rfl; obtain ⟨_, e2, rfl⟩ := hd 5 _ _ (by simp) rfl rfl; exact Runs.call (zan (f := 36) (fun _ => by go_simp) o ho (by simp only [List.map_toArray, List.map_cons, List.map_nil, eval_const, e1, e2])) ((HHI w hl).mono fun e w' h => h.runR)
 exact AllSteps.none
theorem zex (lp gr : Nat) (A : Option Addr) (n c : Nat) (L : List (Int × Int)) (I : Nat → World → Prop) (D : World → Prop) (hval : ∀ x ∈ L, (-9223372036854775808 ≤ x.1 ∧ x.1 < 9223372036854775808) ∧ 0 ≤ x.2 ∧ x.2 < 9223372036854775808) (hn : n ≤ 1000)
  (hB : ∀ j W, I j W → Blk W gr 27 #[.slice A n c] ∧ RowM W A 2 n (zab L)) (hS : ∀ j W W', I j W → Lat W W' → I j W') (hY : zhK lp L I D) (W0 : World) (hI0 : I 0 W0) :
  Calls Tryz.prog 91 #[.func (.yield lp) #[] #[], .pointer (some ⟨gr, 0, none⟩)] W0 (fun e W' => ∃ v, e = .returned v ∧ (I 5 W' ∨ D W')) := by
 have HB := Lib.hid hB
 have HS := Lib.hid hS
 have HY := Lib.hid hY
 have HEN := Lib.hid (fun k (hk : k ≤ 1000) w (hs : RowM w A 2 n (zab L)) => ziv A n c L k w hs hval hn hk)
 have HF2 := Lib.hid (fun w => zaY 2 (by decide) (by decide) w)
 clear hB hS hY hval hn
 go_enter Tryz.func91, Tryz.ntmps91
 go_wp2
 go_loopw [9] (fun t wr => ∃ (i : Nat), i ≤ 5 ∧ t = .int .i64 i ∧ I i wr) (fun t _ => 5 - (RowKit.intOf t).toNat)
 case atStart => exact ⟨0, by omega, rfl, hI0⟩
 case round =>
  obtain ⟨i, hi, rfl, hI⟩ := hrel
  clear hI0
  by_cases hlt : i < 5
  ·have hltI : (i : Int) < 5 := by omega
   obtain ⟨k, hbk, hk4, hix⟩ := idxK hlt
   have HLT := Lib.hid hlt
   have HBK := Lib.hid hbk
   have HK4 := Lib.hid hk4
   obtain ⟨kr, hrow⟩ := HB.out _ _ hI
   have c0 := kr.cell 0
   have HE := HEN.out k (by omega) wr hrow
   have HRA := Lib.hid (fun b A n c w (h : Lg w b A n c 2) (hn : n ≤ 8) => zds b A n c 2 k w h hn (by omega))
   clear hlt hbk hk4 hrow
   go_wp2_with fail
   refine HE.mono ?_
   rintro e w2 ⟨bL, AL, nL, cL, bH, AH, nH, cH, rfl, rL, mL, rH, mH, l2⟩
   replace hI := HS.out _ _ _ hI l2
   have ML := Lib.hid mL
   have MH := Lib.hid mH
   clear l2 HE kr c0 hix mL mH
   go_upto_region 4 with (fail)
   refine zaK (Q := fun W => Code.wp _ _ _ _ W) ?_
   intro w3 la hsx k5 k6
   obtain ⟨g6, hg6⟩ : ∃ z, w2.heap.size + 1 = z := ⟨_, rfl⟩
   obtain ⟨g5, hg5⟩ : ∃ z, w2.heap.size = z := ⟨_, rfl⟩
   rw [hg6] at k6 ⊢
   rw [hg5] at k5 ⊢
   replace rL := rL.later la
   replace rH := rH.later la
   replace hI := HS.out _ _ _ hI la
   clear la hsx hg6 hg5
   go_wp2_with fail
   refine (HF2.out w3).mono ?_
   rintro e w4 ⟨bU, AU, nU, cU, rfl, rU, mU, la⟩
   replace k5 := k5.later la
   replace k6 := k6.later la
   replace rL := rL.later la
   replace rH := rH.later la
   replace hI := HS.out _ _ _ hI la
   clear la
   go_wp2_with fail
   refine (HRA.out bU AU nU cU w4 rU mU).mono ?_
   rintro e w5 ⟨b0, A0, n0, c0, rfl, r0, m0, la⟩
   replace k5 := k5.later la
   replace k6 := k6.later la
   replace rL := rL.later la
   replace rH := rH.later la
   replace hI := HS.out _ _ _ hI la
   clear la HRA rU mU
   go_upto_region 5 with (fail)
   refine zas (Q := fun W => Code.wp _ _ _ _ W) ?_
   intro w6 la hsx k7
   obtain ⟨g7, hg7⟩ : ∃ z, w5.heap.size = z := ⟨_, rfl⟩
   rw [hg7] at k7 ⊢
   replace k5 := k5.later la
   replace k6 := k6.later la
   replace rL := rL.later la
   replace rH := rH.later la
   replace r0 := r0.later la
   replace hI := HS.out _ _ _ hI la
   have M0 : Hid (n0 ≤ 3300) := by have := HK4.out; show n0 ≤ 3300; omega
   clear la hsx hg7 m0
   obtain ⟨X0, rfl⟩ : ∃ z, z = w6 := ⟨_, rfl⟩
   obtain ⟨N, hN⟩ : ∃ z, 15000 = z := ⟨_, rfl⟩
   have HNN : Hid (N = 15000) := hN.symm
   clear hN
   have RL : ∀ w', Lat X0 w' → w'.rangeAt g5 0 [.bool bL, .slice AL nL cL] := fun w' hl => (k5.later hl).rangeAll
   have RH : ∀ w', Lat X0 w' → w'.rangeAt g6 0 [.bool bH, .slice AH nH cH] := fun w' hl => (k6.later hl).rangeAll
   have RU : ∀ w', Lat X0 w' → w'.rangeAt g7 0 [.bool b0, .slice A0 n0 c0] := fun w' hl => (k7.later hl).rangeAll
   have J2 : (Tryz.prog.info? 88).map (·.size) = some 2 := by kernel_rfl
   have HLO : ∀ w, Lat X0 w → Calls Tryz.prog 36 #[.agg #[.bool bL, .slice AL nL cL], .agg #[.bool b0, .slice A0 n0 c0]] w (RatPost w (zaT (sLo L k) (2 ^ k)) (zaU (sLo L k) (2 ^ k)) N) := fun w hl => by
    refine (zbW bL AL nL cL (sLo L k) b0 A0 n0 c0 (2 ^ k) w (rL.later hl) (r0.later hl) (ziy k) (by have := ML.out; omega) (by have := M0.out; omega)).mono ?_
    rintro e w' ⟨a1, a2, a3, a4, a5, a6, a7, a8, rfl, p1, p2, p3, p4, p5⟩
    exact ⟨a1, a2, a3, a4, a5, a6, a7, a8, rfl, p1, by have := ML.out; have := M0.out; have := HNN.out; omega, p3, by have := ML.out; have := M0.out; have := HNN.out; omega, p5⟩
   have HHI : ∀ w, Lat X0 w → Calls Tryz.prog 36 #[.agg #[.bool bH, .slice AH nH cH], .agg #[.bool b0, .slice A0 n0 c0]] w (RatPost w (zaT (sHi L k) (2 ^ k)) (zaU (sHi L k) (2 ^ k)) N) := fun w hl => by
    refine (zbW bH AH nH cH (sHi L k) b0 A0 n0 c0 (2 ^ k) w (rH.later hl) (r0.later hl) (ziy k) (by have := MH.out; omega) (by have := M0.out; omega)).mono ?_
    rintro e w' ⟨a1, a2, a3, a4, a5, a6, a7, a8, rfl, p1, p2, p3, p4, p5⟩
    exact ⟨a1, a2, a3, a4, a5, a6, a7, a8, rfl, p1, by have := MH.out; have := M0.out; have := HNN.out; omega, p3, by have := MH.out; have := M0.out; have := HNN.out; omega, p5⟩
   rename_i KN hKN
   refine (wpIn_wide (n := 3)).1 ?_
   refine zdf (zf9 lp g5 g6 g7 bL AL nL cL bH AH nH cH b0 A0 n0 c0 (sLo L k) (sHi L k) (2 ^ k) N) (ziD lp g5 g6 g7 bL AL nL cL bH AH nH cH b0 A0 n0 c0 (sLo L k) (sHi L k) (2 ^ k) N _ _ _ _ _ _ _ _ _ _ _ _ _ _ _ _ _ _ _ _) 31 7 [[], [], [], [1, 2], [], [], [4, 5, 3], [0, 3, 6, 6], [7]] (by kernel_rfl) _ rfl rfl _ rfl rfl (by kernel_rfl) (by kernel_rfl) (by kernel_rfl) (by kernel_rfl) (by kernel_rfl) (by kernel_rfl) (by kernel_rfl) (by rfl) rfl (base_of (by repeat (first | exact base_nil _ | refine zad rfl ?_))) (zlc X0 lp g5 g6 g7 bL AL nL cL bH AH nH cH b0 A0 n0 c0 (sLo L k) (sHi L k) (2 ^ k) N _ _ _ _ _ _ _ _ _ _ _ _ _ _ _ _ _ _ _ _ RL RH RU J2 HLO HHI) ?_
   intro a9 W9 hsz9 hdf9 hL9 hbs hsl
   obtain ⟨v21, h21, q21⟩ := hsl 0 _ _ rfl rfl
   obtain rfl : v21 = .func (.yield lp) #[] #[] := q21
   obtain ⟨v24, h24, q24⟩ := hsl 3 _ _ rfl rfl
   obtain ⟨b1, A1, n1, c1, b2, A2, n2, c2, rfl, r1, m1, r2, m2⟩ := (show RTV (zaT (sLo L k) (2 ^ k)) (zaU (sLo L k) (2 ^ k)) N v24 W9 from q24)
   obtain ⟨v27, h27, q27⟩ := hsl 6 _ _ rfl rfl
   obtain ⟨b3, A3, n3, c3, b4, A4, n4, c4, rfl, r3, m3, r4, m4⟩ := (show RTV (zaT (sHi L k) (2 ^ k)) (zaU (sHi L k) (2 ^ k)) N v27 W9 from q27)
   obtain ⟨fn, tmps, assign, body, hy', hR⟩ := HY.out i k W9 b1 A1 n1 c1 b2 A2 n2 c2 b3 A3 n3 c3 b4 A4 n4 c4 HLT.out HBK.out (HS.out _ _ _ hI hL9) r1 (by have := HNN.out; omega) r2 (by have := HNN.out; omega) r3 (by have := HNN.out; omega) r4 (by have := HNN.out; omega)
   have e1 := h21.ev
   have e2 := h24.ev
   have e3 := h27.ev
   clear q24 q27 h21 h24 h27 r1 r2 r3 r4 m1 m2 m3 m4 RL RH RU HLO HHI hsl
   refine ⟨fun _ _ => trivial, ?_⟩
   rw [show Fence.wide.round = none from rfl, Oper.semAt_none]
   have hrun : ∀ o : Oper, o.op = Op.call { callee := Callee.value (Operand.tmp 21), args := #[Operand.tmp 24, Operand.tmp 27], argTypes := #[94, 94] } → (execOp a9.eval o).run Tryz.prog W9 = .ok (.round lp fn tmps assign body) W9 := by
    intro o ho
    obtain ⟨d, op, ty, p, af, gg⟩ := o
    simp only at ho
    subst ho
    have hy : (Instr.yield lp #[.agg #[.bool b1, .slice A1 n1 c1, .bool b2, .slice A2 n2 c2], .agg #[.bool b3, .slice A3 n3 c3, .bool b4, .slice A4 n4 c4]]).run Tryz.prog W9 = .ok (.round lp fn tmps assign body) W9 := hy'
    unfold execOp
    generalize a9.eval = ev at e1 e2 e3 ⊢
    simp only [e1, e2, e3, List.map_toArray, List.map_cons, List.map_nil]
    go_simp
   rw [hrun _ rfl, Oper.uponIn_round]
   refine ⟨fun h => by simp [Fence.wide] at h, hR.mono ?_⟩
   clear hR hrun hy' e1 e2 e3
   rintro e W8 ⟨bb, rfl, hq⟩
   have hrun9 : ∀ o : Oper, o.op = Op.unOp UnOp.not 4 (Operand.tmp 28) → (execOp (a9.put (some 28) (.bool bb)).eval o).run Tryz.prog W8 = .ok (.value (.bool !bb)) W8 := by
    intro o ho
    obtain ⟨d, op, ty, p, af, gg⟩ := o
    simp only at ho
    subst ho
    have e1 : (a9.put (some 28) (.bool bb)).eval (.tmp 28) = .bool bb := by
     simp [Act.eval, Act.put, hsz9]
    unfold execOp
    generalize (a9.put (some 28) (.bool bb)).eval = ev at e1 ⊢
    simp only [e1]
    go_simp
   refine zmt (a := a9.put (some 28) (.bool bb)) (hrun9 _ rfl) ?_
   clear hrun9
   refine hKN _ _ ?_
   obtain ⟨T9, df9⟩ := a9
   obtain rfl : df9 = [] := hdf9
   obtain ⟨f, hf, rfl⟩ := znO T9 hsz9
   have X9 := fun k v h => (hf k).trans (zaa (hbs k v h))
   clear hbs hf hsz9 hKN
   simp only [Act.put, List.setIfInBounds_toArray, List.set_cons_zero, List.set_cons_succ, X9 0 _ rfl, X9 5 _ rfl, X9 6 _ rfl, X9 7 _ rfl, X9 1 _ rfl, X9 2 _ rfl, X9 3 _ rfl, X9 4 _ rfl, X9 8 _ rfl, X9 9 _ rfl, X9 10 _ rfl, X9 11 _ rfl, X9 12 _ rfl, X9 13 _ rfl, X9 14 _ rfl, X9 15 _ rfl, X9 16 _ rfl, X9 17 _ rfl, X9 18 _ rfl, X9 19 _ rfl, X9 20 _ rfl, X9 28 _ rfl, X9 29 _ rfl, X9 30 _ rfl]
   clear X9
   rcases hq with ⟨rfl, hI6⟩ | ⟨rfl, hD6⟩
   ·clear HY HB HEN
    go_wp2
    go_roundw
    case rel => exact ⟨i + 1, HLT.out, by go_num, hI6⟩
    case measure => (have := HLT.out; simp [RowKit.intOf]; omega)
   ·clear HY HB HEN
    go_wp2
    refine bodyPost_ret (results_none rfl _ _ _) rfl ?_
    exact ⟨_, rfl, .inr hD6⟩
  ·obtain rfl : i = 5 := by omega
   go_wp2
   refine bodyPost_end (results_none rfl _ _ _) rfl ?_
   exact ⟨_, rfl, .inl hI⟩
end Go.Proofs.YtpmbglhbcjbkcaaGreat
