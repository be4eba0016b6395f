/- Several texts in one: RgD, InvG, Off, RdLg, RdKp. -/
import Derived.Deep.DeepCutAuto
import Derived.Test.YtakhiomcneikkaaGreatH31
import Derived.Test.YtakhiomcneikkaaGreatH26
namespace Go.Proofs.YtakhiomcneikkaaGreat
open Go.RowKit
set_option linter.unusedSimpArgs false
theorem rg_succ (k : Nat) : Value.int .i64 ((k : Int) + 1) = .int .i64 ((k + 1 : Nat) : Int) := by simp
theorem rg_up {b k : Nat} (h : k < b) : b - (intOf (.int .i64 ((k : Int) + 1))).toNat < b - (intOf (.int .i64 (k : Int))).toNat := by
 show b - ((k : Int) + 1).toNat < b - ((k : Int)).toNat
 omega
section
def SStepG (P : Program) (rows : List SRow) (base : List (Nat × Value)) (W0 : World) (r : SRow) : Prop :=
 (∀ v w w', r.V v w → Lat w w' → r.V v w') ∧
 (((∀ j b, r.guard = some (j, b) → ∃ rj : SRow, rows[j]? = some rj ∧ (∃ d, rj.dst = some d) ∧ j ∈ r.deps ∧ ∀ v w, rj.V v w → v = .bool b) ∧
   ∀ (a : Act) (w : World), Lat W0 w → (∀ k v, base.lookup k = some v → a.eval (.tmp k) = v) → (∀ (j : Nat) (rj : SRow) (d : Tmp), j ∈ r.deps → rows[j]? = some rj → rj.dst = some d → ∃ v, a.eval (.tmp d) = v ∧ rj.V v w) →
    ∀ o : Oper, o.op = r.op → Runs P o a.eval w (fun v w' => Lat w w' ∧ (r.dst.isSome = true → r.V v w'))) ∨
  ((∃ j b, ∃ rj : SRow, r.guard = some (j, b) ∧ rows[j]? = some rj ∧ (∃ d, rj.dst = some d) ∧ j ∈ r.deps ∧ ∀ v w, rj.V v w → v = .bool (!b)) ∧ ∀ w, r.V undef w))
def AllStepsG (P : Program) (rows : List SRow) (base : List (Nat × Value)) (W0 : World) : List SRow → Prop
 | [] => True
 | r :: rs => SStepG P rows base W0 r ∧ AllStepsG P rows base W0 rs
theorem AllStepsG.get {P : Program} {rows : List SRow} {base : List (Nat × Value)} {W0 : World} {l : List SRow} (h : AllStepsG P rows base W0 l) : ∀ r ∈ l, SStepG P rows base W0 r := by
 induction l with
 | nil => intro r hr; cases hr
 | cons x xs ih =>
   intro r hr
   rcases List.mem_cons.1 hr with e | hr
   ·rw [e]; exact h.1
   ·exact ih h.2 r hr
theorem AllStepsG.next {P : Program} {rows : List SRow} {base : List (Nat × Value)} {W0 : World} {r : SRow} {rs : List SRow} (h1 : ∀ v w w', r.V v w → Lat w w' → r.V v w')
  (h2 : ∀ j b, r.guard = some (j, b) → ∃ rj : SRow, rows[j]? = some rj ∧ (∃ d, rj.dst = some d) ∧ j ∈ r.deps ∧ ∀ v w, rj.V v w → v = .bool b)
  (h3 : ∀ (a : Act) (w : World), Lat W0 w → (∀ k v, base.lookup k = some v → a.eval (.tmp k) = v) → (∀ (j : Nat) (rj : SRow) (d : Tmp), j ∈ r.deps → rows[j]? = some rj → rj.dst = some d → ∃ v, a.eval (.tmp d) = v ∧ rj.V v w) →
    ∀ o : Oper, o.op = r.op → Runs P o a.eval w (fun v w' => Lat w w' ∧ (r.dst.isSome = true → r.V v w')))
  (h4 : AllStepsG P rows base W0 rs) : AllStepsG P rows base W0 (r :: rs) := ⟨⟨h1, .inl ⟨h2, h3⟩⟩, h4⟩
theorem AllStepsG.skip {P : Program} {rows : List SRow} {base : List (Nat × Value)} {W0 : World} {r : SRow} {rs : List SRow} (h1 : ∀ v w w', r.V v w → Lat w w' → r.V v w')
  (h2 : ∃ j b, ∃ rj : SRow, r.guard = some (j, b) ∧ rows[j]? = some rj ∧ (∃ d, rj.dst = some d) ∧ j ∈ r.deps ∧ ∀ v w, rj.V v w → v = .bool (!b)) (h3 : ∀ w, r.V undef w)
  (h4 : AllStepsG P rows base W0 rs) : AllStepsG P rows base W0 (r :: rs) := ⟨⟨h1, .inr ⟨h2, h3⟩⟩, h4⟩
theorem AllStepsG.none {P : Program} {rows : List SRow} {base : List (Nat × Value)} {W0 : World} : AllStepsG P rows base W0 [] := trivial
set_option maxHeartbeats 2000000 in
theorem wp_region_slotsG {P : Program} {ops : Array Oper} {Q : Exit → Act → World → Prop} {id : Nat} {a : Act} {w : World} (rows : List SRow) (base : List (Nat × Value)) (N n : Nat) (tbl : List (List Nat))
  (hm : P.follows .mixedOrders = true) (hn : ops.size = n) (ht : depsOf ops = tbl) (hd : ((List.range n).all fun i => ((tbl[i]?).getD []).all fun j => decide (j < i)) = true) (hk : ops.toList.map keyO = rows.map SRow.key)
  (hdis : distinct rows base N = true) (hsz : a.tmps.size = N) (hdf : a.defers = []) (hb : ∀ k v, base.lookup k = some v → Slot a k v) (hstep : AllStepsG P rows base w rows)
  (hend : ∀ a W, a.tmps.size = N → a.defers = [] → Lat w W → (∀ k v, base.lookup k = some v → Slot a k v) → (∀ (j : Nat) r d, rows[j]? = some r → r.dst = some d → ∃ v, Slot a d v ∧ r.V v W) → Q .normal a W) : (Code.region id ops true).wp P Q a w := by
 have hrow : ∀ {i : Nat} {o : Oper}, ops[i]? = some o → ∃ r, rows[i]? = some r ∧ keyO o = r.key := by
  intro i o ho
  have h1 : (ops.toList.map keyO)[i]? = some (keyO o) := by simp [ho]
  rw [hk, List.getElem?_map] at h1
  cases hr : rows[i]? with
  | none => rw [hr] at h1; cases h1
  | some r => rw [hr] at h1; simp only [Option.map_some, Option.some.injEq] at h1; exact ⟨r, rfl, h1.symm⟩
 simp only [distinct, Bool.and_eq_true] at hdis
 obtain ⟨hdis1, hdis2⟩ := hdis
 have hdst : ∀ {i : Nat} {r : SRow} {d : Tmp}, rows[i]? = some r → r.dst = some d → d < N ∧ base.lookup d = none := by
  intro i r d h1 h2
  have := List.all_eq_true.1 hdis1 d (List.mem_filterMap.2 ⟨r, List.mem_of_getElem? h1, h2⟩)
  simpa using this
 have hlen : rows.length = n := by
  have := congrArg List.length hk
  simp at this
  omega
 have hstart : SInv rows base N w 0 a w.drew := ⟨hsz, hdf, Lat.drew w, hb, fun j r d h => by rw [Nat.zero_testBit] at h; cases h⟩
 refine wp_region_inv (I := SInv rows base N w) (n := n) (tbl := tbl) (hm := hm) (hn := hn) (ht := ht) (hd := hd) (h0 := hstart) ?_ ?_
 ·intro i hi o m a w1 ho hmi hdeps hI
  obtain ⟨r, hr, hkey⟩ := hrow ho
  obtain ⟨S1, S23⟩ := hstep.get r (List.mem_of_getElem? hr)
  unfold SRow.key keyO at hkey
  simp only [Prod.mk.injEq] at hkey
  obtain ⟨ke1, ke2, ke3, ke4⟩ := hkey
  have hdeps' : ∀ j ∈ r.deps, m.testBit j = true := by
   intro j hj
   refine hdeps j ?_
   unfold depsOf
   rw [List.getElem?_map, Array.getElem?_toList, ho]
   simp only [Option.map_some, Option.getD_some]
   rw [ke4]
   exact hj
  have hput : ∀ v w', Lat w1 w' → (r.dst.isSome = true → r.V v w') → SInv rows base N w (m ||| 2 ^ i) (a.put o.dst v) w' := by
   intro v w' hl hv
   have hmono : ∀ j rj d, (m ||| 2 ^ i).testBit j = true → j ≠ i → rows[j]? = some rj → rj.dst = some d → ∃ v, Slot a d v ∧ rj.V v w' := by
    intro j rj d hj hne h1 h2
    have hj' : m.testBit j = true := by
     rw [Nat.testBit_or, Nat.testBit_two_pow] at hj
     have : ¬ i = j := fun e => hne e.symm
     simpa [this] using hj
    obtain ⟨u, h3, h4⟩ := hI.slot j rj d hj' h1 h2
    obtain ⟨T1, _⟩ := hstep.get rj (List.mem_of_getElem? h1)
    exact ⟨u, h3, T1 u _ _ h4 hl⟩
   cases hdd : r.dst with
   | none =>
     rw [hdd] at ke2
     rw [ke2]
     refine ⟨hI.size, hI.defers, hI.lat.trans hl, hI.base, fun j rj d hj h1 h2 => ?_⟩
     by_cases hne : j = i
     ·subst hne
      rw [hr] at h1; cases h1
      rw [hdd] at h2; cases h2
     ·exact hmono j rj d hj hne h1 h2
   | some d0 =>
     rw [hdd] at ke2
     rw [ke2]
     obtain ⟨hd0, hd1⟩ := hdst hr hdd
     have hv' := hv (by rw [hdd]; rfl)
     refine ⟨by simp [Act.put, hI.size], by simp [Act.put, hI.defers], hI.lat.trans hl, fun k u hk => ?_, fun j rj d hj h1 h2 => ?_⟩
     ·have := hI.base k u hk
      unfold Slot at this ⊢
      simp only [Act.put]
      rw [Array.getElem?_setIfInBounds_ne (fun e => by subst e; rw [hd1] at hk; cases hk)]
      exact this
     ·by_cases hne : j = i
      ·subst hne
       rw [hr] at h1; cases h1
       rw [hdd] at h2; cases h2
       refine ⟨v, ?_, hv'⟩
       unfold Slot
       simp [Act.put, hI.size, hd0]
      ·obtain ⟨u, h3, h4⟩ := hmono j rj d hj hne h1 h2
       refine ⟨u, ?_, h4⟩
       unfold Slot at h3 ⊢
       simp only [Act.put]
       rw [Array.getElem?_setIfInBounds_ne (fun e => by subst e; exact hne (go_inj hdis2 h1 hr h2 hdd))]
       exact h3
  rcases S23 with ⟨S2, S3⟩ | ⟨S2, S3⟩
  ·have hw : Region.wanted o (yielded ops a.tmps) = true := by
    unfold Region.wanted
    cases hg : o.guard with
    | none => rfl
    | some p =>
      obtain ⟨j, b⟩ := p
      obtain ⟨rj, h1, ⟨d, h2⟩, h3, h4⟩ := S2 j b (by rw [← ke3, hg])
      obtain ⟨v, h5, h6⟩ := hI.slot j rj d (hdeps' j h3) h1 h2
      have h7 := h4 v w1 h6
      subst h7
      have hjn : j < n := by rw [← hlen]; exact (List.getElem?_eq_some_iff.1 h1).1
      have hj : j < ops.size := by omega
      obtain ⟨rj', h8, h9⟩ := hrow (Array.getElem?_eq_getElem hj)
      rw [h1] at h8
      cases h8
      unfold SRow.key keyO at h9
      simp only [Prod.mk.injEq] at h9
      unfold yielded
      unfold Slot at h5
      have hd0 : ops[j].dst = some d := by rw [h9.2.1, h2]
      simp only [Array.getElem?_eq_getElem hj, Option.bind_some, hd0, h5]
      cases b <;> rfl
   have hruns := S3 a w1 hI.lat (fun k v hk => (hI.base k v hk).ev) (fun j rj d hj h1 h2 => by
    obtain ⟨v, h3, h4⟩ := hI.slot j rj d (hdeps' j hj) h1 h2
    exact ⟨v, h3.ev, h4⟩) o ke1
   unfold wpOp
   rw [ho]
   simp only [if_pos hw]
   refine Or.inl ?_
   unfold Oper.wp
   rcases hruns with ⟨v, w', h1, h2, h3⟩ | ⟨f, args, h1, h2⟩
   ·rw [h1, Oper.upon_value]
    exact hput v w' h2 h3
   ·rw [h1, Oper.upon_enter]
    refine h2.mono fun e w' h => ?_
    obtain ⟨v, rfl, h3, h4⟩ := h
    exact hput v w' h3 h4
  ·have hw : Region.wanted o (yielded ops a.tmps) = false := by
    unfold Region.wanted
    obtain ⟨j, b, rj, hg0, h1, ⟨d, h2⟩, h3, h4⟩ := S2
    have hg : o.guard = some (j, b) := by rw [ke3]; exact hg0
    rw [hg]
    obtain ⟨v, h5, h6⟩ := hI.slot j rj d (hdeps' j h3) h1 h2
    have h7 := h4 v w1 h6
    subst h7
    have hjn : j < n := by rw [← hlen]; exact (List.getElem?_eq_some_iff.1 h1).1
    have hj : j < ops.size := by omega
    obtain ⟨rj', h8, h9⟩ := hrow (Array.getElem?_eq_getElem hj)
    rw [h1] at h8
    cases h8
    unfold SRow.key keyO at h9
    simp only [Prod.mk.injEq] at h9
    unfold yielded
    unfold Slot at h5
    have hd0 : ops[j].dst = some d := by rw [h9.2.1, h2]
    simp only [Array.getElem?_eq_getElem hj, Option.bind_some, hd0, h5]
    cases b <;> rfl
   unfold wpOp
   rw [ho]
   simp only [hw]
   exact hput undef w1 (Lat.refl _) (fun _ => S3 w1)
 ·intro m a W hall hI
  exact hend a W hI.size hI.defers hI.lat hI.base (fun j r d h1 h2 => hI.slot j r d (hall j (by rw [← hlen]; exact (List.getElem?_eq_some_iff.1 h1).1)) h1 h2)
end
theorem yv_loadO {P : Program} {S : World → Prop} {a : Act} {ty : TypeId} {x : Operand} {b o : Nat} {cs : List Value} {d : TypeDesc} (hx : a.eval x = .pointer (some ⟨b, o, none⟩)) (hR : ∀ w, S w → w.rangeAt b o cs) (hu : P.underlying ty = some d) (hd : d.isRow = true) (hi : (P.info? ty).map (·.size) = some cs.length) :
  ∀ (op : Oper) (w : World), op.op = .load ty x → S w → (execOp a.eval op).run P w = .ok (.value (.agg cs.toArray)) w := by
 intro op w ho hS
 unfold execOp
 simp only [ho, hx, Instr.loadAt, Instr.sureAddr, Sem.run_bind, Sem.run_pure, Result.andThen_ok, run_loadVar_mid w b o ty cs d (hR w hS) hu hd hi]
theorem rangeO {w : World} {g : Nat} {t : TypeId} {cs : Array Value} (h : Blk w g t cs) (o : Nat) (l : List Value) (hl : ∀ j v, l[j]? = some v → cs[o + j]? = some v) : w.rangeAt g o l := fun j v hj => by rw [h.cell]; exact hl j v hj
theorem Lg.keepL {w W : World} {b : Bool} {A : Option Addr} {n c : Nat} {z : Int} {g : Nat} {t : TypeId} {cs : Array Value} (h : Lg w b A n c z) (hl : LatP (· = g) w W) (hb : Blk w g t cs) (hno : ∀ (j : Nat) (x : Int), cs[j]? ≠ some (.int .u64 x)) : Lg W b A n c z := by
 have ha := h.apart hb hno
 obtain ⟨hn, xs, hs, r⟩ := h
 refine ⟨hn, xs, ⟨hs.1, fun hp => ?_⟩, r⟩
 obtain ⟨a, e, hlt, hc⟩ := hs.2 hp
 refine ⟨a, e, Nat.lt_of_lt_of_le hlt hl.size, fun i x hx => ?_⟩
 have hk : W.heap[(a.add i).block]? = w.heap[(a.add i).block]? := by rw [block_add]; exact hl.block _ hlt (ha hp a e)
 exact (World.cell?_of_block hk).trans (hc i x hx)
theorem name_longL {w : World} {g : Nat} {t : TypeId} {b0 b' : Bool} {A0 A' : Option Addr} {n0 c0 n' c' : Nat} {Q : World → Prop} (hb : Blk w g t #[.bool b0, .slice A0 n0 c0])
  (h : ∀ W, Blk W g t #[.bool b', .slice A' n' c'] → LatP (· = g) w W → (∀ {b A n c z}, Lg w b A n c z → Lg W b A n c z) → Q W) :
  Q ((w.setCell ⟨g, 0, none⟩ (.bool b')).setCell ⟨g, 1, none⟩ (.slice A' n' c')) := by
 refine h _ ?_ ?_ ?_
 ·have := (hb.set 0 (.bool b')).set 1 (.slice A' n' c')
  simpa using this
 ·exact LatP.setCells [.bool b', .slice A' n' c'] w 0
 ·intro b A n c z hr
  have ha := hr.apart hb (no_u64 _ _ _ _)
  exact (hr.far (p := ⟨g, 0, none⟩) ha _).far (p := ⟨g, 1, none⟩) ha _
set_option maxRecDepth 100000 in
set_option maxHeartbeats 1000000 in
theorem raised_any (b1 : Bool) (A1 : Option Addr) (n1 c1 : Nat) (x : Int) (k : Nat) (w : World) (h1 : Lg w b1 A1 n1 c1 x) (hn : n1 ≤ 8) (hk : k ≤ 1000) :
  Calls Tryz.prog 56 #[.agg #[.bool b1, .slice A1 n1 c1], .int .i64 k] w (LongPost w (x ^ k) (8 + 8 * k)) := by
 go_enter Tryz.func56, Tryz.ntmps56
 go_upto_region 1 with (fail)
 refine name2 (Q := fun W => Code.wp _ _ _ _ W) ?_
 intro W hl hs k2 k4
 go_wp2_with fail
 refine (from_any 1 (by decide) (by decide) W).mono ?_
 rintro e w1 ⟨b, A, n, c, rfl, r1, r2, l1⟩
 replace k2 := k2.later l1
 replace k4 := k4.later l1
 have L1 := hl.trans l1
 have R1 := h1.later L1
 have h4 := k4.lt
 clear h1 hl l1 hs
 go_upto_region 2 with (fail)
 refine name1 (Q := fun W => Code.wp _ _ _ _ W) ?_
 intro w2 l2 hs2 k5
 replace k2 := k2.later l2
 replace k4 := k4.later l2
 have L2 := L1.trans l2
 have R2 := R1.later l2
 replace r1 := r1.later l2
 obtain ⟨g5, hg5⟩ : ∃ z, w1.heap.size = z := ⟨_, rfl⟩
 rw [hg5] at k5 h4 ⊢
 obtain ⟨g4, hg4⟩ : ∃ z, w.heap.size + 1 = z := ⟨_, rfl⟩
 rw [hg4] at k4 h4 ⊢
 have hw4 : w.heap.size ≤ g4 := by omega
 clear hg5 hg4 L1 R1 l2 hs2
 go_wp2_with fail
 go_loopw [8] (fun i wr => ∃ (j : Nat) (b : Bool) (A : Option Addr) (n c : Nat), i = .int .i64 j ∧ j ≤ k ∧ Lg wr b A n c (x ^ j) ∧ n ≤ 8 + 8 * j ∧ Lg wr b1 A1 n1 c1 x ∧ Blk wr w.heap.size 77 #[.bool b1, .slice A1 n1 c1] ∧ Blk wr g4 77 #[.bool false, .slice none 0 0] ∧ Blk wr g5 77 #[.bool b, .slice A n c] ∧ Lat w wr) (fun i _ => k - (intOf i).toNat)
 case atStart => exact ⟨0, b, A, n, c, rfl, by omega, by rw [Int.pow_zero]; exact r1, by omega, R2, k2, k4, k5, L2⟩
 case round =>
  clear r1 r2 k2 k4 k5 L2 R2
  obtain ⟨j, b, A, n, c, rfl, hj, r1, r2, R2, k2, k4, k5, L2⟩ := hrel
  by_cases hjk : j < k
  ·have hjI : (j : Int) < (k : Int) := by omega
   have d0 := k2.cell 0
   have d1 := k2.cell 1
   have e0 := k5.cell 0
   have e1 := k5.cell 1
   go_wp2_with fail
   refine (ltimes_any b A n c (x ^ j) b1 A1 n1 c1 x wr r1 R2 (by omega) (by omega)).mono ?_
   rintro e w3 ⟨b', A', n', c', rfl, q1, q2, l3⟩
   replace k2 := k2.later l3
   replace k4 := k4.later l3
   replace k5 := k5.later l3
   have L3 := L2.trans l3
   have R3 := R2.later l3
   clear d0 d1 e0 e1 r1 R2 l3
   have e0 := k5.cell 0
   have e1 := k5.cell 1
   have f0 := k5.frozen 0
   have f1 := k5.frozen 1
   have hlt := k5.lt
   have hlt4 := k4.lt
   go_upto_region 5 with (fail)
   refine name_longL (Q := fun W => Code.wp _ _ _ _ W) k5 ?_
   intro w4 j5 l4 hr4
   have j2 := k2.keepP l4 (by omega)
   have j4 := k4.keepP l4 (by omega)
   have L4 := l4.narrow L3 (by omega)
   go_wp2
   exact ⟨⟨j + 1, b', A', n', c', rg_succ j, hjk, by rw [Int.pow_succ]; exact hr4 q1, by omega, hr4 R3, j2, j4, j5, L4⟩, rg_up hjk⟩
  ·obtain rfl : j = k := by omega
   have e0 := k5.cell 0
   have e1 := k5.cell 1
   have f0 := k4.frozen 0
   have f1 := k4.frozen 1
   have d0 := k4.cell 0
   have d1 := k4.cell 1
   have hlt := k4.lt
   go_wp2
   refine name_longL (Q := fun W => bodyPost _ _ _ _ _ W) k4 ?_
   intro w4 j4 l4 hr4
   have c0 := j4.cell 0
   have c1 := j4.cell 1
   refine bodyPost_ret (v := .agg #[.bool b, .slice A n c]) (by simp [results, Tryz.results56, go_sem, c0, c1]) rfl ?_
   exact ⟨b, A, n, c, rfl, hr4 r1, r2, l4.narrow L2 hw4⟩
set_option linter.unusedVariables false
theorem Lg.keepW {w w' : World} {b : Bool} {A : Option Addr} {n c : Nat} {z : Int} (h : Lg w b A n c z) (hk : KeepW w w') : Lg w' b A n c z := by
 rcases hk with hl | ⟨g, T, cs, hb, hc, lp⟩
 ·exact h.later hl
 ·exact h.keepL lp hb (noDig_u64 hc)
theorem GV.keepW {z : Int} {N : Nat} {v : Value} {w w' : World} (h : GV z N v w) (hk : KeepW w w') : GV z N v w' := by
 obtain ⟨b, A, n, c, e, hr, hn⟩ := h
 exact ⟨b, A, n, c, e, hr.keepW hk, hn⟩
def HV (z : Int) (N : Nat) (v : Value) (w : World) : Prop := ∃ b A n c, v = .agg #[.bool b, .slice A n c] ∧ Rg w b A n c z ∧ n ≤ N
def SV (z : Int) (N : Nat) (v : Value) (w : World) : Prop := ∃ A n c, v = .slice A n c ∧ Lg w false A n c z ∧ n ≤ N
theorem SV.mono {z : Int} {N : Nat} {v : Value} {w w' : World} (h : SV z N v w) (hl : Lat w w') : SV z N v w' := by
 obtain ⟨A, n, c, e, hr, hn⟩ := h
 exact ⟨A, n, c, e, hr.later hl, hn⟩
theorem SV.keepW {z : Int} {N : Nat} {v : Value} {w w' : World} (h : SV z N v w) (hk : KeepW w w') : SV z N v w' := by
 obtain ⟨A, n, c, e, hr, hn⟩ := h
 exact ⟨A, n, c, e, hr.keepW hk, hn⟩
theorem name_store {w : World} {g : Nat} {t : TypeId} {cs c : Array Value} {Q : World → Prop} (hb : Blk w g t cs) (hs : cs.size = c.size) (hr : cs.all noDig = true)
  (h : ∀ W, Blk W g t c → LatP (· = g) w W → KeepW w W → Q W) : Q (w.setCells g 0 c.toList) :=
 h _ (hb.setCells c hs) (LatP.setCells _ _ _) (.inr ⟨g, t, cs, hb, hr, LatP.setCells _ _ _⟩)
end Go.Proofs.YtakhiomcneikkaaGreat
