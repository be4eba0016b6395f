/- Several texts in one: InvO, InvP, InvQ, QuN. -/
import Derived.Test.YtbgngmamnonlbaaGreatH31
import Derived.Test.YtbgngmamnonlbaaGreatH40
import Derived.Test.YtbgngmamnonlbaaGreatH47
import Derived.Test.YtbgngmamnonlbaaGreatH48
namespace Go.Proofs.YtbgngmamnonlbaaGreat
open Go.RowKit
set_option linter.unusedSimpArgs false
end Go.Proofs.YtbgngmamnonlbaaGreat
namespace Go.Proofs.YtbgngmamnonlbaaGreat
open Go.RowKit
set_option linter.unusedSimpArgs false
section
def SStepN (P : Program) (rows : List SRow) (base : List (Nat × Value)) (W0 : World) (r : SRow) : Prop :=
 (∀ v w w', r.V v w → Lat w w' → r.V v w') ∧
 (((∀ j b, r.guard = some (j, b) → ∃ rj : SRow, rows[j]? = some rj ∧ (∃ d, rj.dst = some d) ∧ j ∈ r.deps ∧ ∀ v w, rj.V v w → v = .bool b) ∧
   ∀ (a : Act) (w : World), Lat W0 w → (∀ k v, base.lookup k = some v → a.eval (.tmp k) = v) → (∀ (j : Nat) (rj : SRow) (d : Tmp), j ∈ r.deps → rows[j]? = some rj → rj.dst = some d → ∃ v, a.eval (.tmp d) = v ∧ rj.V v w) →
    ∀ o : Oper, o.op = r.op → Runs P o a.eval w (fun v w' => Lat w w' ∧ (r.dst.isSome = true → r.V v w'))) ∨
  ((∃ j b, ∃ rj : SRow, r.guard = some (j, b) ∧ rows[j]? = some rj ∧ (∃ d, rj.dst = some d) ∧ j ∈ r.deps ∧ ∀ v w, rj.V v w → v ≠ .bool b) ∧ ∀ w, r.V undef w))
def AllStepsN (P : Program) (rows : List SRow) (base : List (Nat × Value)) (W0 : World) : List SRow → Prop
 | [] => True
 | r :: rs => SStepN P rows base W0 r ∧ AllStepsN P rows base W0 rs
theorem AllStepsN.get {P : Program} {rows : List SRow} {base : List (Nat × Value)} {W0 : World} {l : List SRow} (h : AllStepsN P rows base W0 l) : ∀ r ∈ l, SStepN P rows base W0 r := by
 induction l with
 | nil => intro r hr; cases hr
 | cons x xs ih =>
   intro r hr
   rcases List.mem_cons.1 hr with e | hr
   ·rw [e]; exact h.1
   ·exact ih h.2 r hr
theorem AllStepsN.next {P : Program} {rows : List SRow} {base : List (Nat × Value)} {W0 : World} {r : SRow} {rs : List SRow} (h1 : ∀ v w w', r.V v w → Lat w w' → r.V v w')
  (h2 : ∀ j b, r.guard = some (j, b) → ∃ rj : SRow, rows[j]? = some rj ∧ (∃ d, rj.dst = some d) ∧ j ∈ r.deps ∧ ∀ v w, rj.V v w → v = .bool b)
  (h3 : ∀ (a : Act) (w : World), Lat W0 w → (∀ k v, base.lookup k = some v → a.eval (.tmp k) = v) → (∀ (j : Nat) (rj : SRow) (d : Tmp), j ∈ r.deps → rows[j]? = some rj → rj.dst = some d → ∃ v, a.eval (.tmp d) = v ∧ rj.V v w) →
    ∀ o : Oper, o.op = r.op → Runs P o a.eval w (fun v w' => Lat w w' ∧ (r.dst.isSome = true → r.V v w')))
  (h4 : AllStepsN P rows base W0 rs) : AllStepsN P rows base W0 (r :: rs) := ⟨⟨h1, .inl ⟨h2, h3⟩⟩, h4⟩
theorem AllStepsN.skip {P : Program} {rows : List SRow} {base : List (Nat × Value)} {W0 : World} {r : SRow} {rs : List SRow} (h1 : ∀ v w w', r.V v w → Lat w w' → r.V v w')
  (h2 : ∃ j b, ∃ rj : SRow, r.guard = some (j, b) ∧ rows[j]? = some rj ∧ (∃ d, rj.dst = some d) ∧ j ∈ r.deps ∧ ∀ v w, rj.V v w → v ≠ .bool b) (h3 : ∀ w, r.V undef w)
  (h4 : AllStepsN P rows base W0 rs) : AllStepsN P rows base W0 (r :: rs) := ⟨⟨h1, .inr ⟨h2, h3⟩⟩, h4⟩
theorem AllStepsN.none {P : Program} {rows : List SRow} {base : List (Nat × Value)} {W0 : World} : AllStepsN P rows base W0 [] := trivial
set_option maxHeartbeats 2000000 in
theorem wp_region_slotsN {P : Program} {ops : Array Oper} {Q : Exit → Act → World → Prop} {id : Nat} {b : Bool} {a : Act} {w : World} (rows : List SRow) (base : List (Nat × Value)) (N n : Nat) (tbl : List (List Nat))
  (hm : P.follows .mixedOrders = true) (hn : ops.size = n) (ht : depsOf ops = tbl) (hd : ((List.range n).all fun i => ((tbl[i]?).getD []).all fun j => decide (j < i)) = true) (hk : ops.toList.map keyO = rows.map SRow.key)
  (hdis : distinct rows base N = true) (hsz : a.tmps.size = N) (hdf : a.defers = []) (hb : ∀ k v, base.lookup k = some v → Slot a k v) (hstep : AllStepsN P rows base w rows)
  (hend : ∀ a W, a.tmps.size = N → a.defers = [] → Lat w W → (∀ k v, base.lookup k = some v → Slot a k v) → (∀ (j : Nat) r d, rows[j]? = some r → r.dst = some d → ∃ v, Slot a d v ∧ r.V v W) → Q .normal a W) : (Code.region id ops b).wp P Q a w := by
 have hrow : ∀ {i : Nat} {o : Oper}, ops[i]? = some o → ∃ r, rows[i]? = some r ∧ keyO o = r.key := by
  intro i o ho
  have h1 : (ops.toList.map keyO)[i]? = some (keyO o) := by simp [ho]
  rw [hk, List.getElem?_map] at h1
  cases hr : rows[i]? with
  | none => rw [hr] at h1; cases h1
  | some r => rw [hr] at h1; simp only [Option.map_some, Option.some.injEq] at h1; exact ⟨r, rfl, h1.symm⟩
 simp only [distinct, Bool.and_eq_true] at hdis
 obtain ⟨hdis1, hdis2⟩ := hdis
 have hdst : ∀ {i : Nat} {r : SRow} {d : Tmp}, rows[i]? = some r → r.dst = some d → d < N ∧ base.lookup d = none := by
  intro i r d h1 h2
  have := List.all_eq_true.1 hdis1 d (List.mem_filterMap.2 ⟨r, List.mem_of_getElem? h1, h2⟩)
  simpa using this
 have hlen : rows.length = n := by
  have := congrArg List.length hk
  simp at this
  omega
 have hstart : SInv rows base N w 0 a w.drew := ⟨hsz, hdf, Lat.drew w, hb, fun j r d h => by rw [Nat.zero_testBit] at h; cases h⟩
 refine wp_region_invB (h1 := ⟨hsz, hdf, Lat.refl w, hb, fun j r d h => (by rw [Nat.zero_testBit] at h; cases h)⟩) (I := SInv rows base N w) (n := n) (tbl := tbl) (hm := hm) (hn := hn) (ht := ht) (hd := hd) (h0 := hstart) ?_ ?_
 ·intro i hi o m a w1 ho hmi hdeps hI
  obtain ⟨r, hr, hkey⟩ := hrow ho
  obtain ⟨S1, S23⟩ := hstep.get r (List.mem_of_getElem? hr)
  unfold SRow.key keyO at hkey
  simp only [Prod.mk.injEq] at hkey
  obtain ⟨ke1, ke2, ke3, ke4⟩ := hkey
  have hdeps' : ∀ j ∈ r.deps, m.testBit j = true := by
   intro j hj
   refine hdeps j ?_
   unfold depsOf
   rw [List.getElem?_map, Array.getElem?_toList, ho]
   simp only [Option.map_some, Option.getD_some]
   rw [ke4]
   exact hj
  have hput : ∀ v w', Lat w1 w' → (r.dst.isSome = true → r.V v w') → SInv rows base N w (m ||| 2 ^ i) (a.put o.dst v) w' := by
   intro v w' hl hv
   have hmono : ∀ j rj d, (m ||| 2 ^ i).testBit j = true → j ≠ i → rows[j]? = some rj → rj.dst = some d → ∃ v, Slot a d v ∧ rj.V v w' := by
    intro j rj d hj hne h1 h2
    have hj' : m.testBit j = true := by
     rw [Nat.testBit_or, Nat.testBit_two_pow] at hj
     have : ¬ i = j := fun e => hne e.symm
     simpa [this] using hj
    obtain ⟨u, h3, h4⟩ := hI.slot j rj d hj' h1 h2
    obtain ⟨T1, _⟩ := hstep.get rj (List.mem_of_getElem? h1)
    exact ⟨u, h3, T1 u _ _ h4 hl⟩
   cases hdd : r.dst with
   | none =>
     rw [hdd] at ke2
     rw [ke2]
     refine ⟨hI.size, hI.defers, hI.lat.trans hl, hI.base, fun j rj d hj h1 h2 => ?_⟩
     by_cases hne : j = i
     ·subst hne
      rw [hr] at h1; cases h1
      rw [hdd] at h2; cases h2
     ·exact hmono j rj d hj hne h1 h2
   | some d0 =>
     rw [hdd] at ke2
     rw [ke2]
     obtain ⟨hd0, hd1⟩ := hdst hr hdd
     have hv' := hv (by rw [hdd]; rfl)
     refine ⟨by simp [Act.put, hI.size], by simp [Act.put, hI.defers], hI.lat.trans hl, fun k u hk => ?_, fun j rj d hj h1 h2 => ?_⟩
     ·have := hI.base k u hk
      unfold Slot at this ⊢
      simp only [Act.put]
      rw [Array.getElem?_setIfInBounds_ne (fun e => by subst e; rw [hd1] at hk; cases hk)]
      exact this
     ·by_cases hne : j = i
      ·subst hne
       rw [hr] at h1; cases h1
       rw [hdd] at h2; cases h2
       refine ⟨v, ?_, hv'⟩
       unfold Slot
       simp [Act.put, hI.size, hd0]
      ·obtain ⟨u, h3, h4⟩ := hmono j rj d hj hne h1 h2
       refine ⟨u, ?_, h4⟩
       unfold Slot at h3 ⊢
       simp only [Act.put]
       rw [Array.getElem?_setIfInBounds_ne (fun e => by subst e; exact hne (go_inj hdis2 h1 hr h2 hdd))]
       exact h3
  rcases S23 with ⟨S2, S3⟩ | ⟨S2, S3⟩
  ·have hw : Region.wanted o (yielded ops a.tmps) = true := by
    unfold Region.wanted
    cases hg : o.guard with
    | none => rfl
    | some p =>
      obtain ⟨j, b⟩ := p
      obtain ⟨rj, h1, ⟨d, h2⟩, h3, h4⟩ := S2 j b (by rw [← ke3, hg])
      obtain ⟨v, h5, h6⟩ := hI.slot j rj d (hdeps' j h3) h1 h2
      have h7 := h4 v w1 h6
      subst h7
      have hjn : j < n := by rw [← hlen]; exact (List.getElem?_eq_some_iff.1 h1).1
      have hj : j < ops.size := by omega
      obtain ⟨rj', h8, h9⟩ := hrow (Array.getElem?_eq_getElem hj)
      rw [h1] at h8
      cases h8
      unfold SRow.key keyO at h9
      simp only [Prod.mk.injEq] at h9
      unfold yielded
      unfold Slot at h5
      have hd0 : ops[j].dst = some d := by rw [h9.2.1, h2]
      simp only [Array.getElem?_eq_getElem hj, Option.bind_some, hd0, h5]
      cases b <;> rfl
   have hruns := S3 a w1 hI.lat (fun k v hk => (hI.base k v hk).ev) (fun j rj d hj h1 h2 => by
    obtain ⟨v, h3, h4⟩ := hI.slot j rj d (hdeps' j hj) h1 h2
    exact ⟨v, h3.ev, h4⟩) o ke1
   unfold wpOp
   rw [ho]
   simp only [if_pos hw]
   refine Or.inl ?_
   unfold Oper.wp
   rcases hruns with ⟨v, w', h1, h2, h3⟩ | ⟨f, args, h1, h2⟩
   ·rw [h1, Oper.upon_value]
    exact hput v w' h2 h3
   ·rw [h1, Oper.upon_enter]
    refine h2.mono fun e w' h => ?_
    obtain ⟨v, rfl, h3, h4⟩ := h
    exact hput v w' h3 h4
  ·have hw : Region.wanted o (yielded ops a.tmps) = false := by
    unfold Region.wanted
    obtain ⟨j, b, rj, hg0, h1, ⟨d, h2⟩, h3, h4⟩ := S2
    have hg : o.guard = some (j, b) := by rw [ke3]; exact hg0
    rw [hg]
    obtain ⟨v, h5, h6⟩ := hI.slot j rj d (hdeps' j h3) h1 h2
    have h7 := h4 v w1 h6
    have hjn : j < n := by rw [← hlen]; exact (List.getElem?_eq_some_iff.1 h1).1
    have hj : j < ops.size := by omega
    obtain ⟨rj', h8, h9⟩ := hrow (Array.getElem?_eq_getElem hj)
    rw [h1] at h8
    cases h8
    unfold SRow.key keyO at h9
    simp only [Prod.mk.injEq] at h9
    unfold yielded
    unfold Slot at h5
    have hd0 : ops[j].dst = some d := by rw [h9.2.1, h2]
    simp only [Array.getElem?_eq_getElem hj, Option.bind_some, hd0, h5]
    cases v <;> first | rfl | (rename_i x; cases x <;> cases b <;> first | rfl | exact absurd rfl h7)
   unfold wpOp
   rw [ho]
   simp only [hw]
   exact hput undef w1 (Lat.refl _) (fun _ => S3 w1)
 ·intro m a W hall hI
  exact hend a W hI.size hI.defers hI.lat hI.base (fun j r d h1 h2 => hI.slot j r d (hall j (by rw [← hlen]; exact (List.getElem?_eq_some_iff.1 h1).1)) h1 h2)
end
end Go.Proofs.YtbgngmamnonlbaaGreat
namespace Go.Proofs.YtbgngmamnonlbaaGreat
open Go.RowKit
set_option linter.unusedSimpArgs false
section
variable {P : Program} {rows : List SRow} {base : List (Nat × Value)} {W0 : World} {rs : List SRow} {op : Op} {dst : Option Tmp} {g : Option (Nat × Bool)} {deps : List Nat} {c x y : Value} {t u : Nat}
def EvIs (rows : List SRow) (base : List (Nat × Value)) (deps : List Nat) (t : Nat) (x : Value) : Prop :=
 base.lookup t = some x ∨ ∃ (j : Nat) (rj : SRow), j ∈ deps ∧ rows[j]? = some rj ∧ rj.dst = some t ∧ ∀ v w, rj.V v w → v = x
theorem eb (t : Nat) (h : base.lookup t = some x := by rfl) : EvIs rows base deps t x := .inl h
theorem ed (j : Nat) {rj : SRow} (h1 : rows[j]? = some rj := by rfl) (h0 : j ∈ deps := by simp) (h2 : rj.dst = some t := by rfl) (h3 : ∀ v w, rj.V v w → v = x := by exact fun _ _ h => h) : EvIs rows base deps t x := .inr ⟨j, rj, h0, h1, h2, h3⟩
def GdOk (rows : List SRow) (g : Option (Nat × Bool)) (deps : List Nat) : Prop := ∀ j b, g = some (j, b) → ∃ rj : SRow, rows[j]? = some rj ∧ (∃ d, rj.dst = some d) ∧ j ∈ deps ∧ ∀ v w, rj.V v w → v = .bool b
theorem gd0 : GdOk rows none deps := fun j b h => by cases h
theorem gd1 {j : Nat} {b : Bool} {rj : SRow} {d : Tmp} (h1 : rows[j]? = some rj) (h2 : rj.dst = some d) (h3 : j ∈ deps) (h4 : ∀ v w, rj.V v w → v = .bool b) : GdOk rows (some (j, b)) deps := fun j' b' h => by cases h; exact ⟨rj, h1, ⟨d, h2⟩, h3, h4⟩
theorem EvIs.get (h : EvIs rows base deps t x) {ev : Operand → Value} {w : World} (hb : ∀ k v, base.lookup k = some v → ev (.tmp k) = v) (hd : ∀ (j : Nat) (rj : SRow) (d : Tmp), j ∈ deps → rows[j]? = some rj → rj.dst = some d → ∃ v, ev (.tmp d) = v ∧ rj.V v w) : ev (.tmp t) = x := by
 rcases h with h | ⟨j, rj, h0, h1, h2, h3⟩
 ·exact hb _ _ h
 ·obtain ⟨v, hv, hV⟩ := hd j rj t h0 h1 h2
  rw [hv]
  exact h3 v w hV
theorem n0 (h4 : AllStepsN P rows base W0 rs) (h : ∀ (ev : Operand → Value) (w : World), Lat W0 w → (∀ v, ev (.const v) = v) → ∀ d ty p af q, (execOp ev ⟨d, op, ty, p, af, q⟩).run P w = .ok (.value c) w)
  (hg : GdOk rows g deps := by first | exact gd0 | exact gd1 rfl rfl (by simp) (fun _ _ h => h)) : AllStepsN P rows base W0 (⟨op, dst, g, deps, fun v _ => v = c⟩ :: rs) :=
 AllStepsN.next (fun _ _ _ h _ => h) hg (fun a w hl _ _ o ho => by
  obtain ⟨d, op', ty, p, af, q⟩ := o
  simp only at ho
  subst ho
  exact Runs.val (h a.eval w hl (fun _ => rfl) d ty p af q) ⟨Lat.refl _, fun _ => rfl⟩) h4
theorem n1 (h4 : AllStepsN P rows base W0 rs) (E : EvIs rows base deps t x) (h : ∀ (ev : Operand → Value) (w : World), Lat W0 w → (∀ v, ev (.const v) = v) → ev (.tmp t) = x → ∀ d ty p af q, (execOp ev ⟨d, op, ty, p, af, q⟩).run P w = .ok (.value c) w)
  (hg : GdOk rows g deps := by first | exact gd0 | exact gd1 rfl rfl (by simp) (fun _ _ h => h)) : AllStepsN P rows base W0 (⟨op, dst, g, deps, fun v _ => v = c⟩ :: rs) :=
 AllStepsN.next (fun _ _ _ h _ => h) hg (fun a w hl hb hd o ho => by
  obtain ⟨d, op', ty, p, af, q⟩ := o
  simp only at ho
  subst ho
  exact Runs.val (h a.eval w hl (fun _ => rfl) (E.get hb hd) d ty p af q) ⟨Lat.refl _, fun _ => rfl⟩) h4
theorem n2 (h4 : AllStepsN P rows base W0 rs) (E : EvIs rows base deps t x) (E2 : EvIs rows base deps u y) (h : ∀ (ev : Operand → Value) (w : World), Lat W0 w → (∀ v, ev (.const v) = v) → ev (.tmp t) = x → ev (.tmp u) = y → ∀ d ty p af q, (execOp ev ⟨d, op, ty, p, af, q⟩).run P w = .ok (.value c) w)
  (hg : GdOk rows g deps := by first | exact gd0 | exact gd1 rfl rfl (by simp) (fun _ _ h => h)) : AllStepsN P rows base W0 (⟨op, dst, g, deps, fun v _ => v = c⟩ :: rs) :=
 AllStepsN.next (fun _ _ _ h _ => h) hg (fun a w hl hb hd o ho => by
  obtain ⟨d, op', ty, p, af, q⟩ := o
  simp only at ho
  subst ho
  exact Runs.val (h a.eval w hl (fun _ => rfl) (E.get hb hd) (E2.get hb hd) d ty p af q) ⟨Lat.refl _, fun _ => rfl⟩) h4
theorem nk {j : Nat} {b : Bool} {rj : SRow} {d : Tmp} (h4 : AllStepsN P rows base W0 rs) (h1 : rows[j]? = some rj := by rfl) (h2 : rj.dst = some d := by rfl) (h3 : j ∈ deps := by simp) (h5 : ∀ v w, rj.V v w → v ≠ .bool b := by (intro v w h; cases h; exact fun e => by cases e)) : AllStepsN P rows base W0 (⟨op, dst, some (j, b), deps, fun v _ => v = undef⟩ :: rs) :=
 AllStepsN.skip (fun _ _ _ h _ => h) ⟨j, b, rj, rfl, h1, ⟨d, h2⟩, h3, h5⟩ (fun _ => rfl) h4
end
theorem base_consL {L : List Value} {df} {k : Nat} {v : Value} {r : List (Nat × Value)} (h : L[k]? = some v) (hr : BaseAll ⟨L.toArray, df⟩ r) : BaseAll ⟨L.toArray, df⟩ ((k, v) :: r) := base_cons (by simpa using h) hr
end Go.Proofs.YtbgngmamnonlbaaGreat
namespace Go.Proofs.YtbgngmamnonlbaaGreat
open Go.RowKit
set_option linter.unusedSimpArgs false
set_option linter.unusedVariables false
set_option maxRecDepth 100000
def askE (xs : List Int) (s k : Int) : Int := if censusB xs = true then (if 1 ≤ s ∧ s ≤ 1000 ∧ 1 ≤ k ∧ k ≤ 4 then 0 else 2) else 60
theorem askE_cen {xs : List Int} {s k : Int} (h : censusB xs = false) : askE xs s k = 60 := by rw [askE, if_neg (by simp [h])]
theorem askE_arg {xs : List Int} {s k : Int} (h : censusB xs = true) (h2 : ¬ (1 ≤ s ∧ s ≤ 1000 ∧ 1 ≤ k ∧ k ≤ 4)) : askE xs s k = 2 := by rw [askE, if_pos h, if_neg h2]
theorem askE_ok {xs : List Int} {s k : Int} (h : askE xs s k = 0) : censusB xs = true ∧ 1 ≤ s ∧ s ≤ 1000 ∧ 1 ≤ k ∧ k ≤ 4 := by
 unfold askE at h
 split at h
 ·rename_i hc
  split at h
  ·exact ⟨hc, by assumption⟩
  ·cases h
 ·cases h
set_option maxHeartbeats 2000000 in
theorem asked_no (A : Option Addr) (n c : Nat) (xs : List Int) (s k : Int) (w : World) (hs : Sl w .i64 A n xs) (hn : n ≤ 1000) (h : askE xs s k ≠ 0) :
  Calls Tryz.prog 42 #[.slice A n c, .int .i64 s, .int .i64 k] w (fun e w' => e = .returned (.int .i64 (askE xs s k)) ∧ Lat w w') := by
 have HC := qCheck_any A n c xs w hs (by omega)
 cases hc : censusB xs with
 | false =>
   rw [cenE_no hc] at HC
   rw [askE_cen hc]
   clear h hc hs
   go_enter Tryz.func42, Tryz.ntmps42
   go_wp2_with fail
   refine HC.mono ?_
   rintro e w1 ⟨rfl, he⟩
   have l1 : Lat w w1 := he ▸ Lat.refl w
   clear he HC
   go_wp2
   go_ret
   exact ⟨rfl, l1⟩
 | true =>
   rw [cenE_yes hc] at HC
   have h2 : ¬ (1 ≤ s ∧ s ≤ 1000 ∧ 1 ≤ k ∧ k ≤ 4) := fun h9 => h (by rw [askE, if_pos hc, if_pos h9])
   rw [askE_arg hc h2]
   by_cases c1 : s < 1
   ·clear h h2 hc hs
    go_enter Tryz.func42, Tryz.ntmps42
    go_wp2_with fail
    refine HC.mono ?_
    rintro e w1 ⟨rfl, he⟩
    have l1 : Lat w w1 := he ▸ Lat.refl w
    clear he HC
    go_wp2
    go_ret
    exact ⟨rfl, l1⟩
   by_cases c2 : 1000 < s
   ·clear h h2 hc hs
    go_enter Tryz.func42, Tryz.ntmps42
    go_wp2_with fail
    refine HC.mono ?_
    rintro e w1 ⟨rfl, he⟩
    have l1 : Lat w w1 := he ▸ Lat.refl w
    clear he HC
    go_wp2
    go_ret
    exact ⟨rfl, l1⟩
   by_cases c3 : k < 1
   ·clear h h2 hc hs
    go_enter Tryz.func42, Tryz.ntmps42
    go_wp2_with fail
    refine HC.mono ?_
    rintro e w1 ⟨rfl, he⟩
    have l1 : Lat w w1 := he ▸ Lat.refl w
    clear he HC
    go_wp2
    go_ret
    exact ⟨rfl, l1⟩
   ·have c4 : 4 < k := by omega
    clear h h2 hc hs
    go_enter Tryz.func42, Tryz.ntmps42
    go_wp2_with fail
    refine HC.mono ?_
    rintro e w1 ⟨rfl, he⟩
    have l1 : Lat w w1 := he ▸ Lat.refl w
    clear he HC
    go_wp2
    go_ret
    exact ⟨rfl, l1⟩
set_option maxHeartbeats 1000000 in
theorem qTotal_no (A : Option Addr) (n c : Nat) (xs : List Int) (w : World) (hs : Sl w .i64 A n xs) (hn : n ≤ 1000) (hc : censusB xs = false) :
  Calls Tryz.prog 13 #[.slice A n c] w (fun e w' => e = .returned (.tuple #[.int .i64 0, .int .i64 60]) ∧ Lat w w') := by
 have HC := qCheck_any A n c xs w hs (by omega)
 rw [cenE_no hc] at HC
 clear hs hc
 go_enter Tryz.func13, Tryz.ntmps13
 go_wp2_with fail
 refine HC.mono ?_
 rintro e w1 ⟨rfl, he⟩
 have l1 : Lat w w1 := he ▸ Lat.refl w
 clear he HC
 go_wp2
 go_ret2
 exact ⟨rfl, l1⟩
set_option maxHeartbeats 2000000 in
theorem qQuota_no (A : Option Addr) (n c : Nat) (xs : List Int) (s k : Int) (w : World) (hs : Sl w .i64 A n xs) (hn : n ≤ 1000) (h : askE xs s k ≠ 0) :
  Calls Tryz.prog 18 #[.slice A n c, .int .i64 s, .int .i64 k] w (ShR w zA (askE xs s k)) := by
 have HA := fun w hs => asked_no A n c xs s k w hs hn h
 obtain ⟨E, hE⟩ : ∃ E, askE xs s k = E := ⟨_, rfl⟩
 rw [hE] at HA h ⊢
 have hne : (E == 0) = false := by simpa using h
 clear hE h
 go_enter Tryz.func18, Tryz.ntmps18
 go_upto_region 1 with (fail)
 refine name1 (Q := fun W => Code.wp _ _ _ _ W) ?_
 intro W hl hsz k6
 go_wp2_with fail
 refine (HA W (hs.later hl)).mono ?_
 rintro e w1 ⟨rfl, l1⟩
 have k6 := k6.later l1
 have L := hl.trans l1
 clear hsz HA hl l1 hs
 have e0 := k6.cell 0
 have e1 := k6.cell 1
 have e2 := k6.cell 2
 have e3 := k6.cell 3
 have e4 := k6.cell 4
 have e5 := k6.cell 5
 have e6 := k6.cell 6
 have e7 := k6.cell 7
 have e8 := k6.cell 8
 have e9 := k6.cell 9
 have e10 := k6.cell 10
 have e11 := k6.cell 11
 have e12 := k6.cell 12
 have e13 := k6.cell 13
 have e14 := k6.cell 14
 have e15 := k6.cell 15
 have f0 := k6.frozen 0
 have f1 := k6.frozen 1
 have f2 := k6.frozen 2
 have f3 := k6.frozen 3
 have f4 := k6.frozen 4
 have f5 := k6.frozen 5
 have f6 := k6.frozen 6
 have f7 := k6.frozen 7
 have f8 := k6.frozen 8
 have f9 := k6.frozen 9
 have f10 := k6.frozen 10
 have f11 := k6.frozen 11
 have f12 := k6.frozen 12
 have f13 := k6.frozen 13
 have f14 := k6.frozen 14
 have f15 := k6.frozen 15
 go_wp2
 refine bodyPost_ret (v := .tuple #[.agg #[.int .u64 W8.zero.a0, .int .u64 W8.zero.a1, .int .u64 W8.zero.a2, .int .u64 W8.zero.a3, .int .u64 W8.zero.a4, .int .u64 W8.zero.a5, .int .u64 W8.zero.a6, .int .u64 W8.zero.a7, .int .u64 W8.zero.a0, .int .u64 W8.zero.a1, .int .u64 W8.zero.a2, .int .u64 W8.zero.a3, .int .u64 W8.zero.a4, .int .u64 W8.zero.a5, .int .u64 W8.zero.a6, .int .u64 W8.zero.a7], .int .i64 E]) (by simp [results, Tryz.results18, go_sem, W8.zero, e0, e1, e2, e3, e4, e5, e6, e7, e8, e9, e10, e11, e12, e13, e14, e15]) rfl ?_
 refine ⟨rfl, ?_⟩
 iterate 16 (refine Lat.setCell ?_ (by simp; try omega) _)
 exact L
set_option maxHeartbeats 2000000 in
theorem qQuotients_no (A : Option Addr) (n c : Nat) (xs : List Int) (s k : Int) (w : World) (hs : Sl w .i64 A n xs) (hn : n ≤ 1000) (h : askE xs s k ≠ 0) :
  Calls Tryz.prog 20 #[.slice A n c, .int .i64 s, .int .i64 k] w (fun e w' => e = .returned (.tuple #[.slice none 0 0, .int .i64 (askE xs s k)]) ∧ Lat w w') := by
 have HQ := fun w hs => qQuota_no A n c xs s k w hs hn h
 obtain ⟨E, hE⟩ : ∃ E, askE xs s k = E := ⟨_, rfl⟩
 rw [hE] at HQ h ⊢
 have hne : (E == 0) = false := by simpa using h
 obtain ⟨X, hX⟩ : ∃ X, zA = X := ⟨_, rfl⟩
 have gX : GoodX X := by rw [← hX]; exact zA_good
 rw [hX] at HQ
 have i3 := Lib.hid gX.info
 have z3 := Lib.hid gX.1
 have k3 := Lib.hid gX.2.1
 clear hX gX h hE
 go_enter Tryz.func20, Tryz.ntmps20
 go_wp2_with fail
 refine (HQ w hs).mono ?_
 rintro e w1 ⟨rfl, l1⟩
 have K0 := Blk.new w1 42 #[.int .u64 W8.zero.a0, .int .u64 W8.zero.a1, .int .u64 W8.zero.a2, .int .u64 W8.zero.a3, .int .u64 W8.zero.a4, .int .u64 W8.zero.a5, .int .u64 W8.zero.a6, .int .u64 W8.zero.a7, .int .u64 W8.zero.a0, .int .u64 W8.zero.a1, .int .u64 W8.zero.a2, .int .u64 W8.zero.a3, .int .u64 W8.zero.a4, .int .u64 W8.zero.a5, .int .u64 W8.zero.a6, .int .u64 W8.zero.a7]
 go_upto_region 2 with (refine wpList_put rfl 42 (.tmp 8) (.tmp 18) (by rfl) (by rfl) w1.heap.size (by rfl) X (by rfl) K0 (by rw [z3.out]; rfl) i3.out k3.out ?_; intro w2 hput; have k8 := hput.blk; have l2 := hput.lat w1 (Lat.alloc _ _) (Nat.le_refl _))
 clear hput K0 HQ k8 hs
 go_wp2
 go_ret2
 exact ⟨rfl, l1.trans l2⟩
set_option maxHeartbeats 2000000 in
theorem give_no (A1 : Option Addr) (n c1 : Nat) (P : List Int) (Al : Option Addr) (nl cl : Nat) (s k : Int) (w : World) (hP : Sl w .i64 A1 n P) (hn : n ≤ 1000) (h : askE P s k ≠ 0) :
  Calls Tryz.prog 25 #[.slice A1 n c1, .int .i64 s, .int .i64 k, .slice Al nl cl] w (fun e w' => e = .returned (.tuple #[.agg #[.slice none 0 0, .slice none 0 0, .int .i64 0], .int .i64 (askE P s k)]) ∧ Lat w w') := by
 have HA := fun w h' => asked_no A1 n c1 P s k w h' hn h
 obtain ⟨E, hE⟩ : ∃ E, askE P s k = E := ⟨_, rfl⟩
 rw [hE] at HA h ⊢
 have hne : (E == 0) = false := by simpa using h
 clear h hE
 go_enter Tryz.func25, Tryz.ntmps25
 go_wp2_with fail
 refine wp_scope_straight ?_
 go_upto_region 1 with (fail)
 refine name2 (Q := fun W => Code.wp _ _ _ _ W) ?_
 intro W hl hsz k5 k8
 have d0 := k5.cell 0
 go_wp2_with fail
 refine (HA W (hP.later hl)).mono ?_
 rintro e w4 ⟨rfl, l4⟩
 have K8 := k8.later l4
 have L4 := hl.trans l4
 clear d0 k5 k8 hl hsz l4 HA hP
 have e0 := K8.cell 0
 have e1 := K8.cell 1
 have e2 := K8.cell 2
 have f0 := K8.frozen 0
 have f1 := K8.frozen 1
 have f2 := K8.frozen 2
 go_wp2
 rw [Exit.noGoto_ret]
 refine bodyPost_ret (v := .tuple #[.agg #[.slice none 0 0, .slice none 0 0, .int .i64 0], .int .i64 E]) (by simp [results, Tryz.results25, go_sem, e0, e1, e2]) rfl ?_
 refine ⟨rfl, ?_⟩
 iterate 3 (refine Lat.setCell ?_ (by simp; try omega) _)
 exact L4
theorem give1_low (s : Int) (b2 : Nat) (x : Int) (w : World) (hx : x < 0) (hc : w.cell? ⟨b2, 0, none⟩ = some (.int .i64 s)) :
  Calls Tryz.prog 48 #[.int .i64 x, .pointer (some ⟨b2, 0, none⟩)] w (fun e w' => e = .returned (.bool true) ∧ w = w') := by
 go_enter Tryz.func48, Tryz.ntmps48
 go_wp2
 go_ret
 exact ⟨rfl, rfl⟩
theorem give1_high (s : Int) (b2 : Nat) (x : Int) (w : World) (hx : ¬ x < 0) (hx2 : s < x) (hc : w.cell? ⟨b2, 0, none⟩ = some (.int .i64 s)) :
  Calls Tryz.prog 48 #[.int .i64 x, .pointer (some ⟨b2, 0, none⟩)] w (fun e w' => e = .returned (.bool true) ∧ w = w') := by
 go_enter Tryz.func48, Tryz.ntmps48
 go_wp2
 go_ret
 exact ⟨rfl, rfl⟩
theorem give1_any (s : Int) (b2 : Nat) (x : Int) (w : World) (hc : w.cell? ⟨b2, 0, none⟩ = some (.int .i64 s)) :
  Calls Tryz.prog 48 #[.int .i64 x, .pointer (some ⟨b2, 0, none⟩)] w (fun e w' => e = .returned (.bool (outS s x)) ∧ w = w') := by
 by_cases h1 : x < 0
 ·rw [show outS s x = true by unfold outS; simp [h1]]
  exact give1_low s b2 x w h1 hc
 ·by_cases h2 : s < x
  ·rw [show outS s x = true by unfold outS; simp [h2]]
   exact give1_high s b2 x w h1 h2 hc
  ·exact give1_in s b2 x w (by omega) (by omega) hc
noncomputable def gn6l_rows (A1 : Option Addr) (n c1 bl ol nl cl g5 : Nat) (s : Int) : List SRow := [
 ⟨Op.move (Operand.tmp 3), some 34, none, [], fun v _ => v = .slice (some ⟨bl, ol, none⟩) nl cl⟩,
 ⟨Op.call { callee := Callee.builtin Builtin.len, args := #[Operand.tmp 34], argTypes := #[27] }, some 35, none, [0], fun v _ => v = .int .i64 (nl : Int)⟩,
 ⟨Op.move (Operand.tmp 0), some 36, none, [], fun v _ => v = .slice A1 n c1⟩,
 ⟨Op.call { callee := Callee.builtin Builtin.len, args := #[Operand.tmp 36], argTypes := #[27] }, some 37, none, [2], fun v _ => v = .int .i64 (n : Int)⟩,
 ⟨Op.binOp BinOp.neq 3 (Operand.tmp 35) (Operand.tmp 37) 3, some 38, none, [1, 3], fun v _ => v = .bool true⟩,
 ⟨Op.move (Operand.tmp 38), some 39, none, [4], fun v _ => v = .bool true⟩,
 ⟨Op.move (Operand.tmp 3), some 40, some (5, false), [5], fun v _ => v = undef⟩,
 ⟨Op.makeFunc (Fn.func 48) #[] #[Operand.tmp 5], some 41, some (5, false), [5], fun v _ => v = undef⟩,
 ⟨Op.call { callee := Callee.value (Operand.func 40), args := #[Operand.tmp 40, Operand.tmp 41], argTypes := #[27, 77] }, some 42, some (5, false), [6, 7, 5, 5], fun v _ => v = undef⟩,
 ⟨Op.pick (Operand.tmp 39) (Operand.const (Value.bool true)) (Operand.tmp 42), some 43, none, [5, 8], fun v _ => v = .bool true⟩,
 ⟨Op.move (Operand.tmp 43), some 44, none, [9, 8], fun v _ => v = .bool true⟩,
 ⟨Op.move (Operand.tmp 3), some 45, some (10, false), [10], fun v _ => v = undef⟩,
 ⟨Op.call { callee := Callee.value (Operand.func 37), args := #[Operand.tmp 45], argTypes := #[27] }, some 46, some (10, false), [11, 10, 10], fun v _ => v = undef⟩,
 ⟨Op.load 3 (Operand.tmp 5), some 47, some (10, false), [10], fun v _ => v = undef⟩,
 ⟨Op.binOp BinOp.gtr 3 (Operand.tmp 46) (Operand.tmp 47) 3, some 48, some (10, false), [12, 13, 10], fun v _ => v = undef⟩,
 ⟨Op.pick (Operand.tmp 44) (Operand.const (Value.bool true)) (Operand.tmp 48), some 49, none, [10, 14], fun v _ => v = .bool true⟩]
noncomputable def gn6l_base (A1 : Option Addr) (n c1 bl ol nl cl g5 : Nat) (s : Int) (v1 v2 v4 v6 v7 v8 v9 v10 v11 v12 v13 v14 v15 v16 v17 v18 v19 v20 v21 v22 v23 v24 v25 v26 v27 v28 v29 v30 v31 v32 v33 v50 v51 v52 v53 v54 v55 v56 v57 v58 v59 v60 v61 v62 v63 v64 v65 v66 v67 v68 v69 v70 v71 v72 v73 v74 v75 v76 v77 v78 v79 v80 v81 v82 v83 v84 v85 v86 v87 v88 v89 v90 v91 v92 v93 v94 v95 v96 v97 v98 v99 v100 v101 v102 v103 v104 v105 v106 v107 v108 v109 v110 v111 v112 v113 v114 v115 v116 v117 v118 v119 v120 v121 v122 v123 v124 v125 v126 v127 v128 v129 v130 v131 v132 v133 v134 v135 v136 v137 v138 v139 v140 : Value) : List (Nat × Value) := [(0, .slice A1 n c1), (3, .slice (some ⟨bl, ol, none⟩) nl cl), (5, .pointer (some ⟨g5, 0, none⟩)), (1, v1), (2, v2), (4, v4), (6, v6), (7, v7), (8, v8), (9, v9), (10, v10), (11, v11), (12, v12), (13, v13), (14, v14), (15, v15), (16, v16), (17, v17), (18, v18), (19, v19), (20, v20), (21, v21), (22, v22), (23, v23), (24, v24), (25, v25), (26, v26), (27, v27), (28, v28), (29, v29), (30, v30), (31, v31), (32, v32), (33, v33), (50, v50), (51, v51), (52, v52), (53, v53), (54, v54), (55, v55), (56, v56), (57, v57), (58, v58), (59, v59), (60, v60), (61, v61), (62, v62), (63, v63), (64, v64), (65, v65), (66, v66), (67, v67), (68, v68), (69, v69), (70, v70), (71, v71), (72, v72), (73, v73), (74, v74), (75, v75), (76, v76), (77, v77), (78, v78), (79, v79), (80, v80), (81, v81), (82, v82), (83, v83), (84, v84), (85, v85), (86, v86), (87, v87), (88, v88), (89, v89), (90, v90), (91, v91), (92, v92), (93, v93), (94, v94), (95, v95), (96, v96), (97, v97), (98, v98), (99, v99), (100, v100), (101, v101), (102, v102), (103, v103), (104, v104), (105, v105), (106, v106), (107, v107), (108, v108), (109, v109), (110, v110), (111, v111), (112, v112), (113, v113), (114, v114), (115, v115), (116, v116), (117, v117), (118, v118), (119, v119), (120, v120), (121, v121), (122, v122), (123, v123), (124, v124), (125, v125), (126, v126), (127, v127), (128, v128), (129, v129), (130, v130), (131, v131), (132, v132), (133, v133), (134, v134), (135, v135), (136, v136), (137, v137), (138, v138), (139, v139), (140, v140)]
set_option maxRecDepth 100000 in
set_option maxHeartbeats 4000000 in
theorem gn6l_steps (V : World) (A1 : Option Addr) (n c1 bl ol nl cl g5 : Nat) (s : Int) (v1 v2 v4 v6 v7 v8 v9 v10 v11 v12 v13 v14 v15 v16 v17 v18 v19 v20 v21 v22 v23 v24 v25 v26 v27 v28 v29 v30 v31 v32 v33 v50 v51 v52 v53 v54 v55 v56 v57 v58 v59 v60 v61 v62 v63 v64 v65 v66 v67 v68 v69 v70 v71 v72 v73 v74 v75 v76 v77 v78 v79 v80 v81 v82 v83 v84 v85 v86 v87 v88 v89 v90 v91 v92 v93 v94 v95 v96 v97 v98 v99 v100 v101 v102 v103 v104 v105 v106 v107 v108 v109 v110 v111 v112 v113 v114 v115 v116 v117 v118 v119 v120 v121 v122 v123 v124 v125 v126 v127 v128 v129 v130 v131 v132 v133 v134 v135 v136 v137 v138 v139 v140 : Value) (hne : ((nl : Int) != (n : Int)) = true) :
  AllStepsN Tryz.prog (gn6l_rows A1 n c1 bl ol nl cl g5 s) (gn6l_base A1 n c1 bl ol nl cl g5 s v1 v2 v4 v6 v7 v8 v9 v10 v11 v12 v13 v14 v15 v16 v17 v18 v19 v20 v21 v22 v23 v24 v25 v26 v27 v28 v29 v30 v31 v32 v33 v50 v51 v52 v53 v54 v55 v56 v57 v58 v59 v60 v61 v62 v63 v64 v65 v66 v67 v68 v69 v70 v71 v72 v73 v74 v75 v76 v77 v78 v79 v80 v81 v82 v83 v84 v85 v86 v87 v88 v89 v90 v91 v92 v93 v94 v95 v96 v97 v98 v99 v100 v101 v102 v103 v104 v105 v106 v107 v108 v109 v110 v111 v112 v113 v114 v115 v116 v117 v118 v119 v120 v121 v122 v123 v124 v125 v126 v127 v128 v129 v130 v131 v132 v133 v134 v135 v136 v137 v138 v139 v140) V (gn6l_rows A1 n c1 bl ol nl cl g5 s) := by
 refine n1 ?_ (eb 3) (fun ev w hl ec e1 d ty p af g => ?_)
 refine n1 ?_ (ed 0) (fun ev w hl ec e1 d ty p af g => ?_)
 refine n1 ?_ (eb 0) (fun ev w hl ec e1 d ty p af g => ?_)
 refine n1 ?_ (ed 2) (fun ev w hl ec e1 d ty p af g => ?_)
 refine n2 ?_ (ed 1) (ed 3) (fun ev w hl ec e1 e2 d ty p af g => ?_)
 refine n1 ?_ (ed 4) (fun ev w hl ec e1 d ty p af g => ?_)
 refine nk ?_
 refine nk ?_
 refine nk ?_
 refine n1 ?_ (ed 5) (fun ev w hl ec e1 d ty p af g => ?_)
 refine n1 ?_ (ed 9) (fun ev w hl ec e1 d ty p af g => ?_)
 refine nk ?_
 refine nk ?_
 refine nk ?_
 refine nk ?_
 refine n1 ?_ (ed 10) (fun ev w hl ec e1 d ty p af g => ?_)
 ·exact AllStepsN.none
 all_goals (unfold execOp; first | simp only [e1, e2, ec] | simp only [e1, ec] | simp only [ec])
 all_goals go_simp
noncomputable def gn6o_rows (A1 : Option Addr) (n c1 bl ol nl cl g5 : Nat) (s : Int) : List SRow := [
 ⟨Op.move (Operand.tmp 3), some 34, none, [], fun v _ => v = .slice (some ⟨bl, ol, none⟩) nl cl⟩,
 ⟨Op.call { callee := Callee.builtin Builtin.len, args := #[Operand.tmp 34], argTypes := #[27] }, some 35, none, [0], fun v _ => v = .int .i64 (nl : Int)⟩,
 ⟨Op.move (Operand.tmp 0), some 36, none, [], fun v _ => v = .slice A1 n c1⟩,
 ⟨Op.call { callee := Callee.builtin Builtin.len, args := #[Operand.tmp 36], argTypes := #[27] }, some 37, none, [2], fun v _ => v = .int .i64 (n : Int)⟩,
 ⟨Op.binOp BinOp.neq 3 (Operand.tmp 35) (Operand.tmp 37) 3, some 38, none, [1, 3], fun v _ => v = .bool false⟩,
 ⟨Op.move (Operand.tmp 38), some 39, none, [4], fun v _ => v = .bool false⟩,
 ⟨Op.move (Operand.tmp 3), some 40, some (5, false), [5], fun v _ => v = .slice (some ⟨bl, ol, none⟩) nl cl⟩,
 ⟨Op.makeFunc (Fn.func 48) #[] #[Operand.tmp 5], some 41, some (5, false), [5], fun v _ => v = .func (.func 48) #[] #[.pointer (some ⟨g5, 0, none⟩)]⟩,
 ⟨Op.call { callee := Callee.value (Operand.func 40), args := #[Operand.tmp 40, Operand.tmp 41], argTypes := #[27, 77] }, some 42, some (5, false), [6, 7, 5, 5], fun v _ => v = .bool true⟩,
 ⟨Op.pick (Operand.tmp 39) (Operand.const (Value.bool true)) (Operand.tmp 42), some 43, none, [5, 8], fun v _ => v = .bool true⟩,
 ⟨Op.move (Operand.tmp 43), some 44, none, [9, 8], fun v _ => v = .bool true⟩,
 ⟨Op.move (Operand.tmp 3), some 45, some (10, false), [10], fun v _ => v = undef⟩,
 ⟨Op.call { callee := Callee.value (Operand.func 37), args := #[Operand.tmp 45], argTypes := #[27] }, some 46, some (10, false), [11, 10, 10], fun v _ => v = undef⟩,
 ⟨Op.load 3 (Operand.tmp 5), some 47, some (10, false), [10], fun v _ => v = undef⟩,
 ⟨Op.binOp BinOp.gtr 3 (Operand.tmp 46) (Operand.tmp 47) 3, some 48, some (10, false), [12, 13, 10], fun v _ => v = undef⟩,
 ⟨Op.pick (Operand.tmp 44) (Operand.const (Value.bool true)) (Operand.tmp 48), some 49, none, [10, 14], fun v _ => v = .bool true⟩]
noncomputable def gn6o_base (A1 : Option Addr) (n c1 bl ol nl cl g5 : Nat) (s : Int) (v1 v2 v4 v6 v7 v8 v9 v10 v11 v12 v13 v14 v15 v16 v17 v18 v19 v20 v21 v22 v23 v24 v25 v26 v27 v28 v29 v30 v31 v32 v33 v50 v51 v52 v53 v54 v55 v56 v57 v58 v59 v60 v61 v62 v63 v64 v65 v66 v67 v68 v69 v70 v71 v72 v73 v74 v75 v76 v77 v78 v79 v80 v81 v82 v83 v84 v85 v86 v87 v88 v89 v90 v91 v92 v93 v94 v95 v96 v97 v98 v99 v100 v101 v102 v103 v104 v105 v106 v107 v108 v109 v110 v111 v112 v113 v114 v115 v116 v117 v118 v119 v120 v121 v122 v123 v124 v125 v126 v127 v128 v129 v130 v131 v132 v133 v134 v135 v136 v137 v138 v139 v140 : Value) : List (Nat × Value) := [(0, .slice A1 n c1), (3, .slice (some ⟨bl, ol, none⟩) nl cl), (5, .pointer (some ⟨g5, 0, none⟩)), (1, v1), (2, v2), (4, v4), (6, v6), (7, v7), (8, v8), (9, v9), (10, v10), (11, v11), (12, v12), (13, v13), (14, v14), (15, v15), (16, v16), (17, v17), (18, v18), (19, v19), (20, v20), (21, v21), (22, v22), (23, v23), (24, v24), (25, v25), (26, v26), (27, v27), (28, v28), (29, v29), (30, v30), (31, v31), (32, v32), (33, v33), (50, v50), (51, v51), (52, v52), (53, v53), (54, v54), (55, v55), (56, v56), (57, v57), (58, v58), (59, v59), (60, v60), (61, v61), (62, v62), (63, v63), (64, v64), (65, v65), (66, v66), (67, v67), (68, v68), (69, v69), (70, v70), (71, v71), (72, v72), (73, v73), (74, v74), (75, v75), (76, v76), (77, v77), (78, v78), (79, v79), (80, v80), (81, v81), (82, v82), (83, v83), (84, v84), (85, v85), (86, v86), (87, v87), (88, v88), (89, v89), (90, v90), (91, v91), (92, v92), (93, v93), (94, v94), (95, v95), (96, v96), (97, v97), (98, v98), (99, v99), (100, v100), (101, v101), (102, v102), (103, v103), (104, v104), (105, v105), (106, v106), (107, v107), (108, v108), (109, v109), (110, v110), (111, v111), (112, v112), (113, v113), (114, v114), (115, v115), (116, v116), (117, v117), (118, v118), (119, v119), (120, v120), (121, v121), (122, v122), (123, v123), (124, v124), (125, v125), (126, v126), (127, v127), (128, v128), (129, v129), (130, v130), (131, v131), (132, v132), (133, v133), (134, v134), (135, v135), (136, v136), (137, v137), (138, v138), (139, v139), (140, v140)]
set_option maxRecDepth 100000 in
set_option maxHeartbeats 4000000 in
theorem gn6o_steps (V : World) (A1 : Option Addr) (n c1 bl ol nl cl g5 : Nat) (s : Int) (v1 v2 v4 v6 v7 v8 v9 v10 v11 v12 v13 v14 v15 v16 v17 v18 v19 v20 v21 v22 v23 v24 v25 v26 v27 v28 v29 v30 v31 v32 v33 v50 v51 v52 v53 v54 v55 v56 v57 v58 v59 v60 v61 v62 v63 v64 v65 v66 v67 v68 v69 v70 v71 v72 v73 v74 v75 v76 v77 v78 v79 v80 v81 v82 v83 v84 v85 v86 v87 v88 v89 v90 v91 v92 v93 v94 v95 v96 v97 v98 v99 v100 v101 v102 v103 v104 v105 v106 v107 v108 v109 v110 v111 v112 v113 v114 v115 v116 v117 v118 v119 v120 v121 v122 v123 v124 v125 v126 v127 v128 v129 v130 v131 v132 v133 v134 v135 v136 v137 v138 v139 v140 : Value) (hne : nl = n) (HH : ∀ w', Lat V w' → Calls Tryz.prog 40 #[.slice (some ⟨bl, ol, none⟩) nl cl, .func (.func 48) #[] #[.pointer (some ⟨g5, 0, none⟩)]] w' (fun e w'' => e = .returned (.bool true) ∧ Lat w' w'')) :
  AllStepsN Tryz.prog (gn6o_rows A1 n c1 bl ol nl cl g5 s) (gn6o_base A1 n c1 bl ol nl cl g5 s v1 v2 v4 v6 v7 v8 v9 v10 v11 v12 v13 v14 v15 v16 v17 v18 v19 v20 v21 v22 v23 v24 v25 v26 v27 v28 v29 v30 v31 v32 v33 v50 v51 v52 v53 v54 v55 v56 v57 v58 v59 v60 v61 v62 v63 v64 v65 v66 v67 v68 v69 v70 v71 v72 v73 v74 v75 v76 v77 v78 v79 v80 v81 v82 v83 v84 v85 v86 v87 v88 v89 v90 v91 v92 v93 v94 v95 v96 v97 v98 v99 v100 v101 v102 v103 v104 v105 v106 v107 v108 v109 v110 v111 v112 v113 v114 v115 v116 v117 v118 v119 v120 v121 v122 v123 v124 v125 v126 v127 v128 v129 v130 v131 v132 v133 v134 v135 v136 v137 v138 v139 v140) V (gn6o_rows A1 n c1 bl ol nl cl g5 s) := by
 refine n1 ?_ (eb 3) (fun ev w hl ec e1 d ty p af g => ?_)
 refine n1 ?_ (ed 0) (fun ev w hl ec e1 d ty p af g => ?_)
 refine n1 ?_ (eb 0) (fun ev w hl ec e1 d ty p af g => ?_)
 refine n1 ?_ (ed 2) (fun ev w hl ec e1 d ty p af g => ?_)
 refine n2 ?_ (ed 1) (ed 3) (fun ev w hl ec e1 e2 d ty p af g => ?_)
 refine n1 ?_ (ed 4) (fun ev w hl ec e1 d ty p af g => ?_)
 refine n1 ?_ (eb 3) (fun ev w hl ec e1 d ty p af g => ?_)
 refine n1 ?_ (eb 5) (fun ev w hl ec e1 d ty p af g => ?_)
 refine AllStepsN.next (fun _ _ _ h _ => h) (fun j b h => by cases h; exact ⟨_, rfl, ⟨_, rfl⟩, by simp, fun _ _ h => h⟩) (fun a w hl hb hd o ho => by obtain ⟨v1, e1, q1⟩ := hd 6 _ _ (by simp) rfl rfl; subst q1; obtain ⟨v2, e2, q2⟩ := hd 7 _ _ (by simp) rfl rfl; subst q2; exact Runs.call (yv_call (f := 40) (fun _ => by go_simp) o ho (by simp only [List.map_toArray, List.map_cons, List.map_nil, eval_const, e1, e2])) ((HH w hl).mono fun e w' h => ⟨_, h.1, h.2, fun _ => rfl⟩)) ?_
 refine n2 ?_ (ed 5) (ed 8) (fun ev w hl ec e1 e2 d ty p af g => ?_)
 refine n1 ?_ (ed 9) (fun ev w hl ec e1 d ty p af g => ?_)
 refine nk ?_
 refine nk ?_
 refine nk ?_
 refine nk ?_
 refine n1 ?_ (ed 10) (fun ev w hl ec e1 d ty p af g => ?_)
 ·exact AllStepsN.none
 all_goals (unfold execOp; first | simp only [e1, e2, ec] | simp only [e1, ec] | simp only [ec])
 all_goals go_simp
set_option maxHeartbeats 4000000 in
theorem give_len (A1 : Option Addr) (n c1 : Nat) (P : List Int) (Al : Option Addr) (nl cl : Nat) (L : List Int) (s k : Int) (w : World) (hP : Sl w .i64 A1 n P) (hL : Sl w .i64 Al nl L) (hn : n ≤ 1000) (hnl : nl ≤ 1000) (hnl0 : 0 < nl) (h : askE P s k = 0) (hbad : nl ≠ n) :
  Calls Tryz.prog 25 #[.slice A1 n c1, .int .i64 s, .int .i64 k, .slice Al nl cl] w (fun e w' => e = .returned (.tuple #[.agg #[.slice none 0 0, .slice none 0 0, .int .i64 0], .int .i64 2]) ∧ Lat w w') := by
 obtain ⟨hc, h1, h2, h3, h4⟩ := askE_ok h
 have HASK := fun w h' => asked_yes A1 n c1 P s k w h' hn hc h1 h2 h3 h4
 have h0' : ((nl : Int) == 0) = false := by simp; omega
 obtain ⟨bl, ol, rfl, _⟩ := hL.plain hnl0
 have hne : ((nl : Int) != (n : Int)) = true := by simp; omega
 have HNE := Lib.hid hne
 clear hne hbad
 clear h hc h1 h2 h3 h4
 go_enter Tryz.func25, Tryz.ntmps25
 go_wp2_with fail
 refine wp_scope_straight ?_
 go_upto_region 1 with (fail)
 refine name2 (Q := fun W => Code.wp _ _ _ _ W) ?_
 intro W hl hsz k5 k8
 have d0 := k5.cell 0
 go_wp2_with fail
 refine (HASK W (hP.later hl)).mono ?_
 rintro e w4 ⟨rfl, l4⟩
 have K5 := k5.later l4
 have K8 := k8.later l4
 have L4 := hl.trans l4
 clear d0 k5 k8 hl hsz l4 HASK hP
 clear hL K5
 go_upto_region 6 with (fail)
 rename_i KN hKN
 refine wp_region_slotsN (gn6l_rows A1 n c1 bl ol nl cl w.heap.size s) (gn6l_base A1 n c1 bl ol nl cl w.heap.size s _ _ _ _ _ _ _ _ _ _ _ _ _ _ _ _ _ _ _ _ _ _ _ _ _ _ _ _ _ _ _ _ _ _ _ _ _ _ _ _ _ _ _ _ _ _ _ _ _ _ _ _ _ _ _ _ _ _ _ _ _ _ _ _ _ _ _ _ _ _ _ _ _ _ _ _ _ _ _ _ _ _ _ _ _ _ _ _ _ _ _ _ _ _ _ _ _ _ _ _ _ _ _ _ _ _ _ _ _ _ _ _ _ _ _ _ _ _ _ _ _ _) 141 16 [[], [0], [], [2], [1, 3], [4], [5], [5], [6, 7, 5, 5], [5, 8], [9, 8], [10], [11, 10, 10], [10], [12, 13, 10], [10, 14]] (by kernel_rfl) (by kernel_rfl) (by kernel_rfl) (by kernel_rfl) (by kernel_rfl) (by kernel_rfl) (by rfl) rfl (base_of (by repeat (first | exact base_nil _ | refine base_consL rfl ?_))) (gn6l_steps w4 A1 n c1 bl ol nl cl w.heap.size s _ _ _ _ _ _ _ _ _ _ _ _ _ _ _ _ _ _ _ _ _ _ _ _ _ _ _ _ _ _ _ _ _ _ _ _ _ _ _ _ _ _ _ _ _ _ _ _ _ _ _ _ _ _ _ _ _ _ _ _ _ _ _ _ _ _ _ _ _ _ _ _ _ _ _ _ _ _ _ _ _ _ _ _ _ _ _ _ _ _ _ _ _ _ _ _ _ _ _ _ _ _ _ _ _ _ _ _ _ _ _ _ _ _ _ _ _ _ _ _ _ _ HNE.out) ?_
 ·intro a9 W9 hsz9 hdf9 hL9 hbs hsl
  obtain ⟨v9, h9, q9⟩ := hsl 15 _ _ rfl rfl
  obtain rfl : v9 = .bool true := q9
  have w49 := slot_getD h9
  clear h9
  refine hKN _ _ ?_
  obtain ⟨T9, df9⟩ := a9
  obtain rfl : df9 = [] := hdf9
  obtain ⟨f, hf, rfl⟩ := spell141 T9 hsz9
  have X9 := fun k v h => (hf k).trans (slot_getD (hbs k v h))
  have x49 := (hf 49).trans w49
  clear hbs hsl hf hsz9 hKN w49
  simp only [X9 0 _ rfl, X9 3 _ rfl, X9 5 _ rfl, X9 1 _ rfl, X9 2 _ rfl, X9 4 _ rfl, X9 6 _ rfl, X9 7 _ rfl, X9 8 _ rfl, X9 9 _ rfl, X9 10 _ rfl, X9 11 _ rfl, X9 12 _ rfl, X9 13 _ rfl, X9 14 _ rfl, X9 15 _ rfl, X9 16 _ rfl, X9 17 _ rfl, X9 18 _ rfl, X9 19 _ rfl, X9 20 _ rfl, X9 21 _ rfl, X9 22 _ rfl, X9 23 _ rfl, X9 24 _ rfl, X9 25 _ rfl, X9 26 _ rfl, X9 27 _ rfl, X9 28 _ rfl, X9 29 _ rfl, X9 30 _ rfl, X9 31 _ rfl, X9 32 _ rfl, X9 33 _ rfl, X9 50 _ rfl, X9 51 _ rfl, X9 52 _ rfl, X9 53 _ rfl, X9 54 _ rfl, X9 55 _ rfl, X9 56 _ rfl, X9 57 _ rfl, X9 58 _ rfl, X9 59 _ rfl, X9 60 _ rfl, X9 61 _ rfl, X9 62 _ rfl, X9 63 _ rfl, X9 64 _ rfl, X9 65 _ rfl, X9 66 _ rfl, X9 67 _ rfl, X9 68 _ rfl, X9 69 _ rfl, X9 70 _ rfl, X9 71 _ rfl, X9 72 _ rfl, X9 73 _ rfl, X9 74 _ rfl, X9 75 _ rfl, X9 76 _ rfl, X9 77 _ rfl, X9 78 _ rfl, X9 79 _ rfl, X9 80 _ rfl, X9 81 _ rfl, X9 82 _ rfl, X9 83 _ rfl, X9 84 _ rfl, X9 85 _ rfl, X9 86 _ rfl, X9 87 _ rfl, X9 88 _ rfl, X9 89 _ rfl, X9 90 _ rfl, X9 91 _ rfl, X9 92 _ rfl, X9 93 _ rfl, X9 94 _ rfl, X9 95 _ rfl, X9 96 _ rfl, X9 97 _ rfl, X9 98 _ rfl, X9 99 _ rfl, X9 100 _ rfl, X9 101 _ rfl, X9 102 _ rfl, X9 103 _ rfl, X9 104 _ rfl, X9 105 _ rfl, X9 106 _ rfl, X9 107 _ rfl, X9 108 _ rfl, X9 109 _ rfl, X9 110 _ rfl, X9 111 _ rfl, X9 112 _ rfl, X9 113 _ rfl, X9 114 _ rfl, X9 115 _ rfl, X9 116 _ rfl, X9 117 _ rfl, X9 118 _ rfl, X9 119 _ rfl, X9 120 _ rfl, X9 121 _ rfl, X9 122 _ rfl, X9 123 _ rfl, X9 124 _ rfl, X9 125 _ rfl, X9 126 _ rfl, X9 127 _ rfl, X9 128 _ rfl, X9 129 _ rfl, X9 130 _ rfl, X9 131 _ rfl, X9 132 _ rfl, X9 133 _ rfl, X9 134 _ rfl, X9 135 _ rfl, X9 136 _ rfl, X9 137 _ rfl, X9 138 _ rfl, X9 139 _ rfl, X9 140 _ rfl, x49]
  clear x49 X9
  have K9 := K8.later hL9
  have L9 := L4.trans hL9
  clear K8 L4 hL9
  have e0 := K9.cell 0
  have e1 := K9.cell 1
  have e2 := K9.cell 2
  have f0 := K9.frozen 0
  have f1 := K9.frozen 1
  have f2 := K9.frozen 2
  go_wp2
  rw [Exit.noGoto_ret]
  refine bodyPost_ret (v := .tuple #[.agg #[.slice none 0 0, .slice none 0 0, .int .i64 0], .int .i64 2]) (by simp [results, Tryz.results25, go_sem, e0, e1, e2]) rfl ?_
  refine ⟨rfl, ?_⟩
  iterate 3 (refine Lat.setCell ?_ (by simp; try omega) _)
  exact L9
set_option maxHeartbeats 4000000 in
theorem give_out (A1 : Option Addr) (n c1 : Nat) (P : List Int) (Al : Option Addr) (nl cl : Nat) (L : List Int) (s k : Int) (w : World) (hP : Sl w .i64 A1 n P) (hL : Sl w .i64 Al nl L) (hn : n ≤ 1000) (hnl : nl ≤ 1000) (hnl0 : 0 < nl) (h : askE P s k = 0) (hbad : nl = n) (hany : L.any (outS s) = true) :
  Calls Tryz.prog 25 #[.slice A1 n c1, .int .i64 s, .int .i64 k, .slice Al nl cl] w (fun e w' => e = .returned (.tuple #[.agg #[.slice none 0 0, .slice none 0 0, .int .i64 0], .int .i64 2]) ∧ Lat w w') := by
 obtain ⟨hc, h1, h2, h3, h4⟩ := askE_ok h
 have HASK := fun w h' => asked_yes A1 n c1 P s k w h' hn hc h1 h2 h3 h4
 have h0' : ((nl : Int) == 0) = false := by simp; omega
 obtain ⟨bl, ol, rfl, _⟩ := hL.plain hnl0
 have HNE := Lib.hid hbad
 have HA2 := Lib.hid hany
 clear hbad hany
 clear h hc h1 h2 h3 h4
 go_enter Tryz.func25, Tryz.ntmps25
 go_wp2_with fail
 refine wp_scope_straight ?_
 go_upto_region 1 with (fail)
 refine name2 (Q := fun W => Code.wp _ _ _ _ W) ?_
 intro W hl hsz k5 k8
 have d0 := k5.cell 0
 go_wp2_with fail
 refine (HASK W (hP.later hl)).mono ?_
 rintro e w4 ⟨rfl, l4⟩
 have K5 := k5.later l4
 have K8 := k8.later l4
 have L4 := hl.trans l4
 clear d0 k5 k8 hl hsz l4 HASK hP
 have HH : ∀ w', Lat w4 w' → Calls Tryz.prog 40 #[.slice (some ⟨bl, ol, none⟩) nl cl, .func (.func 48) #[] #[.pointer (some ⟨w.heap.size, 0, none⟩)]] w' (fun e w'' => e = .returned (.bool true) ∧ Lat w' w'') := fun w' h => by
  have := qGvHas (outS s) w.heap.size (some ⟨bl, ol, none⟩) nl cl L w' (hL.later (L4.trans h)) (by omega) (fun x _ => give1_any s w.heap.size x w' ((K5.later h).cell 0))
  rw [HA2.out] at this
  exact this.mono (fun e w'' h8 => ⟨h8.1, h8.2 ▸ Lat.refl _⟩)
 have HHH := Lib.hid HH
 clear HH
 clear hL K5
 go_upto_region 6 with (fail)
 rename_i KN hKN
 refine wp_region_slotsN (gn6o_rows A1 n c1 bl ol nl cl w.heap.size s) (gn6o_base A1 n c1 bl ol nl cl w.heap.size s _ _ _ _ _ _ _ _ _ _ _ _ _ _ _ _ _ _ _ _ _ _ _ _ _ _ _ _ _ _ _ _ _ _ _ _ _ _ _ _ _ _ _ _ _ _ _ _ _ _ _ _ _ _ _ _ _ _ _ _ _ _ _ _ _ _ _ _ _ _ _ _ _ _ _ _ _ _ _ _ _ _ _ _ _ _ _ _ _ _ _ _ _ _ _ _ _ _ _ _ _ _ _ _ _ _ _ _ _ _ _ _ _ _ _ _ _ _ _ _ _ _) 141 16 [[], [0], [], [2], [1, 3], [4], [5], [5], [6, 7, 5, 5], [5, 8], [9, 8], [10], [11, 10, 10], [10], [12, 13, 10], [10, 14]] (by kernel_rfl) (by kernel_rfl) (by kernel_rfl) (by kernel_rfl) (by kernel_rfl) (by kernel_rfl) (by rfl) rfl (base_of (by repeat (first | exact base_nil _ | refine base_consL rfl ?_))) (gn6o_steps w4 A1 n c1 bl ol nl cl w.heap.size s _ _ _ _ _ _ _ _ _ _ _ _ _ _ _ _ _ _ _ _ _ _ _ _ _ _ _ _ _ _ _ _ _ _ _ _ _ _ _ _ _ _ _ _ _ _ _ _ _ _ _ _ _ _ _ _ _ _ _ _ _ _ _ _ _ _ _ _ _ _ _ _ _ _ _ _ _ _ _ _ _ _ _ _ _ _ _ _ _ _ _ _ _ _ _ _ _ _ _ _ _ _ _ _ _ _ _ _ _ _ _ _ _ _ _ _ _ _ _ _ _ _ HNE.out HHH.out) ?_
 ·intro a9 W9 hsz9 hdf9 hL9 hbs hsl
  obtain ⟨v9, h9, q9⟩ := hsl 15 _ _ rfl rfl
  obtain rfl : v9 = .bool true := q9
  have w49 := slot_getD h9
  clear h9
  refine hKN _ _ ?_
  obtain ⟨T9, df9⟩ := a9
  obtain rfl : df9 = [] := hdf9
  obtain ⟨f, hf, rfl⟩ := spell141 T9 hsz9
  have X9 := fun k v h => (hf k).trans (slot_getD (hbs k v h))
  have x49 := (hf 49).trans w49
  clear hbs hsl hf hsz9 hKN w49
  simp only [X9 0 _ rfl, X9 3 _ rfl, X9 5 _ rfl, X9 1 _ rfl, X9 2 _ rfl, X9 4 _ rfl, X9 6 _ rfl, X9 7 _ rfl, X9 8 _ rfl, X9 9 _ rfl, X9 10 _ rfl, X9 11 _ rfl, X9 12 _ rfl, X9 13 _ rfl, X9 14 _ rfl, X9 15 _ rfl, X9 16 _ rfl, X9 17 _ rfl, X9 18 _ rfl, X9 19 _ rfl, X9 20 _ rfl, X9 21 _ rfl, X9 22 _ rfl, X9 23 _ rfl, X9 24 _ rfl, X9 25 _ rfl, X9 26 _ rfl, X9 27 _ rfl, X9 28 _ rfl, X9 29 _ rfl, X9 30 _ rfl, X9 31 _ rfl, X9 32 _ rfl, X9 33 _ rfl, X9 50 _ rfl, X9 51 _ rfl, X9 52 _ rfl, X9 53 _ rfl, X9 54 _ rfl, X9 55 _ rfl, X9 56 _ rfl, X9 57 _ rfl, X9 58 _ rfl, X9 59 _ rfl, X9 60 _ rfl, X9 61 _ rfl, X9 62 _ rfl, X9 63 _ rfl, X9 64 _ rfl, X9 65 _ rfl, X9 66 _ rfl, X9 67 _ rfl, X9 68 _ rfl, X9 69 _ rfl, X9 70 _ rfl, X9 71 _ rfl, X9 72 _ rfl, X9 73 _ rfl, X9 74 _ rfl, X9 75 _ rfl, X9 76 _ rfl, X9 77 _ rfl, X9 78 _ rfl, X9 79 _ rfl, X9 80 _ rfl, X9 81 _ rfl, X9 82 _ rfl, X9 83 _ rfl, X9 84 _ rfl, X9 85 _ rfl, X9 86 _ rfl, X9 87 _ rfl, X9 88 _ rfl, X9 89 _ rfl, X9 90 _ rfl, X9 91 _ rfl, X9 92 _ rfl, X9 93 _ rfl, X9 94 _ rfl, X9 95 _ rfl, X9 96 _ rfl, X9 97 _ rfl, X9 98 _ rfl, X9 99 _ rfl, X9 100 _ rfl, X9 101 _ rfl, X9 102 _ rfl, X9 103 _ rfl, X9 104 _ rfl, X9 105 _ rfl, X9 106 _ rfl, X9 107 _ rfl, X9 108 _ rfl, X9 109 _ rfl, X9 110 _ rfl, X9 111 _ rfl, X9 112 _ rfl, X9 113 _ rfl, X9 114 _ rfl, X9 115 _ rfl, X9 116 _ rfl, X9 117 _ rfl, X9 118 _ rfl, X9 119 _ rfl, X9 120 _ rfl, X9 121 _ rfl, X9 122 _ rfl, X9 123 _ rfl, X9 124 _ rfl, X9 125 _ rfl, X9 126 _ rfl, X9 127 _ rfl, X9 128 _ rfl, X9 129 _ rfl, X9 130 _ rfl, X9 131 _ rfl, X9 132 _ rfl, X9 133 _ rfl, X9 134 _ rfl, X9 135 _ rfl, X9 136 _ rfl, X9 137 _ rfl, X9 138 _ rfl, X9 139 _ rfl, X9 140 _ rfl, x49]
  clear x49 X9
  have K9 := K8.later hL9
  have L9 := L4.trans hL9
  clear K8 L4 hL9
  have e0 := K9.cell 0
  have e1 := K9.cell 1
  have e2 := K9.cell 2
  have f0 := K9.frozen 0
  have f1 := K9.frozen 1
  have f2 := K9.frozen 2
  go_wp2
  rw [Exit.noGoto_ret]
  refine bodyPost_ret (v := .tuple #[.agg #[.slice none 0 0, .slice none 0 0, .int .i64 0], .int .i64 2]) (by simp [results, Tryz.results25, go_sem, e0, e1, e2]) rfl ?_
  refine ⟨rfl, ?_⟩
  iterate 3 (refine Lat.setCell ?_ (by simp; try omega) _)
  exact L9
end Go.Proofs.YtbgngmamnonlbaaGreat
