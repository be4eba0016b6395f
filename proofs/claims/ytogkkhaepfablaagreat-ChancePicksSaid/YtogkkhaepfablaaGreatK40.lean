/- Several texts in one: InvG, ShBad, PkB. -/
import Derived.Test.YtogkkhaepfablaaGreatK29
import Derived.Test.YtogkkhaepfablaaGreatJ13
import Derived.Test.YtogkkhaepfablaaGreatK37
namespace Go.Proofs.YtogkkhaepfablaaGreat
open Go.RowKit
set_option linter.unusedSimpArgs false
section
def SStepG (P : Program) (rows : List SRow) (base : List (Nat × Value)) (W0 : World) (r : SRow) : Prop :=
 (∀ v w w', r.V v w → Lat w w' → r.V v w') ∧
 (((∀ j b, r.guard = some (j, b) → ∃ rj : SRow, rows[j]? = some rj ∧ (∃ d, rj.dst = some d) ∧ j ∈ r.deps ∧ ∀ v w, rj.V v w → v = .bool b) ∧
   ∀ (a : Act) (w : World), Lat W0 w → (∀ k v, base.lookup k = some v → a.eval (.tmp k) = v) → (∀ (j : Nat) (rj : SRow) (d : Tmp), j ∈ r.deps → rows[j]? = some rj → rj.dst = some d → ∃ v, a.eval (.tmp d) = v ∧ rj.V v w) →
    ∀ o : Oper, o.op = r.op → Runs P o a.eval w (fun v w' => Lat w w' ∧ (r.dst.isSome = true → r.V v w'))) ∨
  ((∃ j b, ∃ rj : SRow, r.guard = some (j, b) ∧ rows[j]? = some rj ∧ (∃ d, rj.dst = some d) ∧ j ∈ r.deps ∧ ∀ v w, rj.V v w → v = .bool (!b)) ∧ ∀ w, r.V undef w))
def AllStepsG (P : Program) (rows : List SRow) (base : List (Nat × Value)) (W0 : World) : List SRow → Prop
 | [] => True
 | r :: rs => SStepG P rows base W0 r ∧ AllStepsG P rows base W0 rs
theorem AllStepsG.get {P : Program} {rows : List SRow} {base : List (Nat × Value)} {W0 : World} {l : List SRow} (h : AllStepsG P rows base W0 l) : ∀ r ∈ l, SStepG P rows base W0 r := by
 induction l with
 | nil => intro r hr; cases hr
 | cons x xs ih =>
   intro r hr
   rcases List.mem_cons.1 hr with e | hr
   ·rw [e]; exact h.1
   ·exact ih h.2 r hr
theorem AllStepsG.next {P : Program} {rows : List SRow} {base : List (Nat × Value)} {W0 : World} {r : SRow} {rs : List SRow} (h1 : ∀ v w w', r.V v w → Lat w w' → r.V v w')
  (h2 : ∀ j b, r.guard = some (j, b) → ∃ rj : SRow, rows[j]? = some rj ∧ (∃ d, rj.dst = some d) ∧ j ∈ r.deps ∧ ∀ v w, rj.V v w → v = .bool b)
  (h3 : ∀ (a : Act) (w : World), Lat W0 w → (∀ k v, base.lookup k = some v → a.eval (.tmp k) = v) → (∀ (j : Nat) (rj : SRow) (d : Tmp), j ∈ r.deps → rows[j]? = some rj → rj.dst = some d → ∃ v, a.eval (.tmp d) = v ∧ rj.V v w) →
    ∀ o : Oper, o.op = r.op → Runs P o a.eval w (fun v w' => Lat w w' ∧ (r.dst.isSome = true → r.V v w')))
  (h4 : AllStepsG P rows base W0 rs) : AllStepsG P rows base W0 (r :: rs) := ⟨⟨h1, .inl ⟨h2, h3⟩⟩, h4⟩
theorem AllStepsG.skip {P : Program} {rows : List SRow} {base : List (Nat × Value)} {W0 : World} {r : SRow} {rs : List SRow} (h1 : ∀ v w w', r.V v w → Lat w w' → r.V v w')
  (h2 : ∃ j b, ∃ rj : SRow, r.guard = some (j, b) ∧ rows[j]? = some rj ∧ (∃ d, rj.dst = some d) ∧ j ∈ r.deps ∧ ∀ v w, rj.V v w → v = .bool (!b)) (h3 : ∀ w, r.V undef w)
  (h4 : AllStepsG P rows base W0 rs) : AllStepsG P rows base W0 (r :: rs) := ⟨⟨h1, .inr ⟨h2, h3⟩⟩, h4⟩
theorem AllStepsG.none {P : Program} {rows : List SRow} {base : List (Nat × Value)} {W0 : World} : AllStepsG P rows base W0 [] := trivial
set_option maxHeartbeats 2000000 in
theorem wp_region_slotsG {P : Program} {ops : Array Oper} {Q : Exit → Act → World → Prop} {id : Nat} {a : Act} {w : World} (rows : List SRow) (base : List (Nat × Value)) (N n : Nat) (tbl : List (List Nat))
  (hm : P.follows .mixedOrders = true) (hn : ops.size = n) (ht : depsOf ops = tbl) (hd : ((List.range n).all fun i => ((tbl[i]?).getD []).all fun j => decide (j < i)) = true) (hk : ops.toList.map keyO = rows.map SRow.key)
  (hdis : distinct rows base N = true) (hsz : a.tmps.size = N) (hdf : a.defers = []) (hb : ∀ k v, base.lookup k = some v → Slot a k v) (hstep : AllStepsG P rows base w rows)
  (hend : ∀ a W, a.tmps.size = N → a.defers = [] → Lat w W → (∀ k v, base.lookup k = some v → Slot a k v) → (∀ (j : Nat) r d, rows[j]? = some r → r.dst = some d → ∃ v, Slot a d v ∧ r.V v W) → Q .normal a W) : (Code.region id ops true).wp P Q a w := by
 have hrow : ∀ {i : Nat} {o : Oper}, ops[i]? = some o → ∃ r, rows[i]? = some r ∧ keyO o = r.key := by
  intro i o ho
  have h1 : (ops.toList.map keyO)[i]? = some (keyO o) := by simp [ho]
  rw [hk, List.getElem?_map] at h1
  cases hr : rows[i]? with
  | none => rw [hr] at h1; cases h1
  | some r => rw [hr] at h1; simp only [Option.map_some, Option.some.injEq] at h1; exact ⟨r, rfl, h1.symm⟩
 simp only [distinct, Bool.and_eq_true] at hdis
 obtain ⟨hdis1, hdis2⟩ := hdis
 have hdst : ∀ {i : Nat} {r : SRow} {d : Tmp}, rows[i]? = some r → r.dst = some d → d < N ∧ base.lookup d = none := by
  intro i r d h1 h2
  have := List.all_eq_true.1 hdis1 d (List.mem_filterMap.2 ⟨r, List.mem_of_getElem? h1, h2⟩)
  simpa using this
 have hlen : rows.length = n := by
  have := congrArg List.length hk
  simp at this
  omega
 have hstart : SInv rows base N w 0 a w.drew := ⟨hsz, hdf, Lat.drew w, hb, fun j r d h => by rw [Nat.zero_testBit] at h; cases h⟩
 refine wp_region_inv (I := SInv rows base N w) (n := n) (tbl := tbl) (hm := hm) (hn := hn) (ht := ht) (hd := hd) (h0 := hstart) ?_ ?_
 ·intro i hi o m a w1 ho hmi hdeps hI
  obtain ⟨r, hr, hkey⟩ := hrow ho
  obtain ⟨S1, S23⟩ := hstep.get r (List.mem_of_getElem? hr)
  unfold SRow.key keyO at hkey
  simp only [Prod.mk.injEq] at hkey
  obtain ⟨ke1, ke2, ke3, ke4⟩ := hkey
  have hdeps' : ∀ j ∈ r.deps, m.testBit j = true := by
   intro j hj
   refine hdeps j ?_
   unfold depsOf
   rw [List.getElem?_map, Array.getElem?_toList, ho]
   simp only [Option.map_some, Option.getD_some]
   rw [ke4]
   exact hj
  have hput : ∀ v w', Lat w1 w' → (r.dst.isSome = true → r.V v w') → SInv rows base N w (m ||| 2 ^ i) (a.put o.dst v) w' := by
   intro v w' hl hv
   have hmono : ∀ j rj d, (m ||| 2 ^ i).testBit j = true → j ≠ i → rows[j]? = some rj → rj.dst = some d → ∃ v, Slot a d v ∧ rj.V v w' := by
    intro j rj d hj hne h1 h2
    have hj' : m.testBit j = true := by
     rw [Nat.testBit_or, Nat.testBit_two_pow] at hj
     have : ¬ i = j := fun e => hne e.symm
     simpa [this] using hj
    obtain ⟨u, h3, h4⟩ := hI.slot j rj d hj' h1 h2
    obtain ⟨T1, _⟩ := hstep.get rj (List.mem_of_getElem? h1)
    exact ⟨u, h3, T1 u _ _ h4 hl⟩
   cases hdd : r.dst with
   | none =>
     rw [hdd] at ke2
     rw [ke2]
     refine ⟨hI.size, hI.defers, hI.lat.trans hl, hI.base, fun j rj d hj h1 h2 => ?_⟩
     by_cases hne : j = i
     ·subst hne
      rw [hr] at h1; cases h1
      rw [hdd] at h2; cases h2
     ·exact hmono j rj d hj hne h1 h2
   | some d0 =>
     rw [hdd] at ke2
     rw [ke2]
     obtain ⟨hd0, hd1⟩ := hdst hr hdd
     have hv' := hv (by rw [hdd]; rfl)
     refine ⟨by simp [Act.put, hI.size], by simp [Act.put, hI.defers], hI.lat.trans hl, fun k u hk => ?_, fun j rj d hj h1 h2 => ?_⟩
     ·have := hI.base k u hk
      unfold Slot at this ⊢
      simp only [Act.put]
      rw [Array.getElem?_setIfInBounds_ne (fun e => by subst e; rw [hd1] at hk; cases hk)]
      exact this
     ·by_cases hne : j = i
      ·subst hne
       rw [hr] at h1; cases h1
       rw [hdd] at h2; cases h2
       refine ⟨v, ?_, hv'⟩
       unfold Slot
       simp [Act.put, hI.size, hd0]
      ·obtain ⟨u, h3, h4⟩ := hmono j rj d hj hne h1 h2
       refine ⟨u, ?_, h4⟩
       unfold Slot at h3 ⊢
       simp only [Act.put]
       rw [Array.getElem?_setIfInBounds_ne (fun e => by subst e; exact hne (go_inj hdis2 h1 hr h2 hdd))]
       exact h3
  rcases S23 with ⟨S2, S3⟩ | ⟨S2, S3⟩
  ·have hw : Region.wanted o (yielded ops a.tmps) = true := by
    unfold Region.wanted
    cases hg : o.guard with
    | none => rfl
    | some p =>
      obtain ⟨j, b⟩ := p
      obtain ⟨rj, h1, ⟨d, h2⟩, h3, h4⟩ := S2 j b (by rw [← ke3, hg])
      obtain ⟨v, h5, h6⟩ := hI.slot j rj d (hdeps' j h3) h1 h2
      have h7 := h4 v w1 h6
      subst h7
      have hjn : j < n := by rw [← hlen]; exact (List.getElem?_eq_some_iff.1 h1).1
      have hj : j < ops.size := by omega
      obtain ⟨rj', h8, h9⟩ := hrow (Array.getElem?_eq_getElem hj)
      rw [h1] at h8
      cases h8
      unfold SRow.key keyO at h9
      simp only [Prod.mk.injEq] at h9
      unfold yielded
      unfold Slot at h5
      have hd0 : ops[j].dst = some d := by rw [h9.2.1, h2]
      simp only [Array.getElem?_eq_getElem hj, Option.bind_some, hd0, h5]
      cases b <;> rfl
   have hruns := S3 a w1 hI.lat (fun k v hk => (hI.base k v hk).ev) (fun j rj d hj h1 h2 => by
    obtain ⟨v, h3, h4⟩ := hI.slot j rj d (hdeps' j hj) h1 h2
    exact ⟨v, h3.ev, h4⟩) o ke1
   unfold wpOp
   rw [ho]
   simp only [if_pos hw]
   refine Or.inl ?_
   unfold Oper.wp
   rcases hruns with ⟨v, w', h1, h2, h3⟩ | ⟨f, args, h1, h2⟩
   ·rw [h1, Oper.upon_value]
    exact hput v w' h2 h3
   ·rw [h1, Oper.upon_enter]
    refine h2.mono fun e w' h => ?_
    obtain ⟨v, rfl, h3, h4⟩ := h
    exact hput v w' h3 h4
  ·have hw : Region.wanted o (yielded ops a.tmps) = false := by
    unfold Region.wanted
    obtain ⟨j, b, rj, hg0, h1, ⟨d, h2⟩, h3, h4⟩ := S2
    have hg : o.guard = some (j, b) := by rw [ke3]; exact hg0
    rw [hg]
    obtain ⟨v, h5, h6⟩ := hI.slot j rj d (hdeps' j h3) h1 h2
    have h7 := h4 v w1 h6
    subst h7
    have hjn : j < n := by rw [← hlen]; exact (List.getElem?_eq_some_iff.1 h1).1
    have hj : j < ops.size := by omega
    obtain ⟨rj', h8, h9⟩ := hrow (Array.getElem?_eq_getElem hj)
    rw [h1] at h8
    cases h8
    unfold SRow.key keyO at h9
    simp only [Prod.mk.injEq] at h9
    unfold yielded
    unfold Slot at h5
    have hd0 : ops[j].dst = some d := by rw [h9.2.1, h2]
    simp only [Array.getElem?_eq_getElem hj, Option.bind_some, hd0, h5]
    cases b <;> rfl
   unfold wpOp
   rw [ho]
   simp only [hw]
   exact hput undef w1 (Lat.refl _) (fun _ => S3 w1)
 ·intro m a W hall hI
  exact hend a W hI.size hI.defers hI.lat hI.base (fun j r d h1 h2 => hI.slot j r d (hall j (by rw [← hlen]; exact (List.getElem?_eq_some_iff.1 h1).1)) h1 h2)
end
end Go.Proofs.YtogkkhaepfablaaGreat
namespace Go.Proofs.YtogkkhaepfablaaGreat
open Go.RowKit
set_option linter.unusedSimpArgs false
set_option linter.unusedVariables false
def GV (z : Int) (N : Nat) (v : Value) (w : World) : Prop := ∃ b A n c, v = .agg #[.bool b, .slice A n c] ∧ Lg w b A n c z ∧ n ≤ N
theorem GV.mono {z : Int} {N : Nat} {v : Value} {w w' : World} (h : GV z N v w) (hl : Lat w w') : GV z N v w' := by
 obtain ⟨b, A, n, c, e, hr, hn⟩ := h
 exact ⟨b, A, n, c, e, hr.later hl, hn⟩
theorem LongPost.run {z : Int} {N : Nat} {w w' : World} {e : Ending} {d : Prop} (h : LongPost w z N e w') : ∃ v, e = .returned v ∧ (Lat w w' ∧ (d → GV z N v w')) := by
 obtain ⟨b, A, n, c, e, hr, hn, hl⟩ := h
 exact ⟨_, e, hl, fun _ => ⟨b, A, n, c, rfl, hr, hn⟩⟩
theorem LongPost.leS {w w' : World} {z : Int} {N M : Nat} {e : Ending} (h : LongPost w z N e w') (hN : N ≤ M) : LongPost w z M e w' := by
 obtain ⟨b, A, n, c, e, hr, hn, hl⟩ := h
 exact ⟨b, A, n, c, e, hr, by omega, hl⟩
theorem side_le {z : Int} : decide (sideOf z ≤ 0) = decide (z ≤ 0) := by
 refine decide_eq_decide.2 ?_
 unfold sideOf
 split
 ·omega
 ·split <;> omega
theorem side_ne {z : Int} (h : z ≠ 0) : (sideOf z != 0) = true := by
 unfold sideOf
 rw [bne_iff_ne]
 split
 ·decide
 ·decide
theorem spell22 (T : Array Value) (h : T.size = 22) : ∃ f : Nat → Value, (∀ k, f k = T.getD k undef) ∧ T = #[f 0, f 1, f 2, f 3, f 4, f 5, f 6, f 7, f 8, f 9, f 10, f 11, f 12, f 13, f 14, f 15, f 16, f 17, f 18, f 19, f 20, f 21] := ⟨fun k => T.getD k undef, fun _ => rfl, (spell 22 T h).trans (by kernel_rfl)⟩
noncomputable def sbA_rows (b1 b2 b3 : Bool) (A1 A2 A3 : Option Addr) (n1 c1 n2 c2 n3 c3 g3 g4 : Nat) (z s1 s2 : Int) : List SRow := [
 ⟨Op.fieldAddr 139 (Operand.tmp 4) 1, some 8, none, [], fun v _ => v = .pointer (some ⟨g4, 2, none⟩)⟩,
 ⟨Op.load 136 (Operand.tmp 8), some 9, none, [0], fun v _ => v = .agg #[.bool b2, .slice A2 n2 c2]⟩,
 ⟨Op.call { callee := Callee.value (Operand.func 84), args := #[Operand.tmp 9], argTypes := #[136] }, some 10, none, [1], fun v _ => v = .int .i64 s1⟩,
 ⟨Op.binOp BinOp.leq 3 (Operand.tmp 10) (Operand.const (Value.int IntKind.i64 0)) 3, some 11, none, [2], fun v _ => v = .bool true⟩,
 ⟨Op.move (Operand.tmp 11), some 12, none, [3, 2], fun v _ => v = .bool true⟩,
 ⟨Op.fieldAddr 139 (Operand.tmp 4) 0, some 13, some (4, false), [4], fun v _ => v = undef⟩,
 ⟨Op.load 136 (Operand.tmp 13), some 14, some (4, false), [5, 4], fun v _ => v = undef⟩,
 ⟨Op.fieldAddr 139 (Operand.tmp 4) 1, some 15, some (4, false), [4], fun v _ => v = undef⟩,
 ⟨Op.load 136 (Operand.tmp 15), some 16, some (4, false), [7, 4], fun v _ => v = undef⟩,
 ⟨Op.call { callee := Callee.value (Operand.func 85), args := #[Operand.tmp 14, Operand.tmp 16], argTypes := #[136, 136] }, some 17, some (4, false), [6, 8, 4, 4], fun v _ => v = undef⟩,
 ⟨Op.load 136 (Operand.tmp 3), some 18, some (4, false), [4], fun v _ => v = undef⟩,
 ⟨Op.call { callee := Callee.value (Operand.func 86), args := #[Operand.tmp 17, Operand.tmp 18], argTypes := #[136, 136] }, some 19, some (4, false), [9, 10, 9, 4], fun v _ => v = undef⟩,
 ⟨Op.binOp BinOp.neq 3 (Operand.tmp 19) (Operand.const (Value.int IntKind.i64 0)) 3, some 20, some (4, false), [11, 4], fun v _ => v = undef⟩,
 ⟨Op.pick (Operand.tmp 12) (Operand.const (Value.bool true)) (Operand.tmp 20), some 21, none, [4, 12], fun v _ => v = .bool true⟩]
noncomputable def sbA_base (b1 b2 b3 : Bool) (A1 A2 A3 : Option Addr) (n1 c1 n2 c2 n3 c3 g3 g4 : Nat) (z s1 s2 : Int) (v0 v1 v2 v5 v6 v7 : Value) : List (Nat × Value) := [(3, .pointer (some ⟨g3, 0, none⟩)), (4, .pointer (some ⟨g4, 0, none⟩)), (0, v0), (1, v1), (2, v2), (5, v5), (6, v6), (7, v7)]
set_option maxRecDepth 100000 in
set_option maxHeartbeats 4000000 in
theorem sbA_steps (V : World) (b1 b2 b3 : Bool) (A1 A2 A3 : Option Addr) (n1 c1 n2 c2 n3 c3 g3 g4 : Nat) (z s1 s2 : Int) (v0 v1 v2 v5 v6 v7 : Value) (hob : decide (s1 ≤ 0) = true) (R2 : ∀ w', Lat V w' → w'.rangeAt g4 2 [.bool b2, .slice A2 n2 c2]) (J2 : (Tryz.prog.info? 136).map (·.size) = some 2)
  (HS : ∀ w, Lat V w → Calls Tryz.prog 84 #[.agg #[.bool b2, .slice A2 n2 c2]] w (fun e w' => e = .returned (.int .i64 s1) ∧ Lat w w')) :
  AllStepsG Tryz.prog (sbA_rows b1 b2 b3 A1 A2 A3 n1 c1 n2 c2 n3 c3 g3 g4 z s1 s2) (sbA_base b1 b2 b3 A1 A2 A3 n1 c1 n2 c2 n3 c3 g3 g4 z s1 s2 v0 v1 v2 v5 v6 v7) V (sbA_rows b1 b2 b3 A1 A2 A3 n1 c1 n2 c2 n3 c3 g3 g4 z s1 s2) := by
 refine AllStepsG.next (fun _ _ _ h _ => h) (fun j b h => by cases h) (fun a w hl hb hd o ho => by have e1 := hb 4 _ rfl; obtain ⟨d, op, ty, p, af, g⟩ := o; simp only at ho; subst ho; have ec : ∀ v, a.eval (.const v) = v := fun _ => rfl; exact Runs.val (by unfold execOp; generalize a.eval = ev at e1 ec ⊢; simp only [e1, ec]; go_simp) ⟨Lat.refl _, fun _ => rfl⟩) ?_
 refine AllStepsG.next (fun _ _ _ h _ => h) (fun j b h => by cases h) (fun a w hl hb hd o ho => by obtain ⟨v1, e1, q1⟩ := hd 0 _ _ (by simp) rfl rfl; subst q1; exact Runs.val (yv_loadO (S := Lat V) e1 R2 Tryz.underlying136 rfl J2 o w ho hl) ⟨Lat.refl _, fun _ => rfl⟩) ?_
 refine AllStepsG.next (fun _ _ _ h _ => h) (fun j b h => by cases h) (fun a w hl hb hd o ho => by obtain ⟨v1, e1, q1⟩ := hd 1 _ _ (by simp) rfl rfl; subst q1; exact Runs.call (yv_call (f := 84) (fun _ => by go_simp) o ho (by simp only [List.map_toArray, List.map_cons, List.map_nil, eval_const, e1])) ((HS w hl).mono fun e w' h => ⟨_, h.1, h.2, fun _ => rfl⟩)) ?_
 refine AllStepsG.next (fun _ _ _ h _ => h) (fun j b h => by cases h) (fun a w hl hb hd o ho => by obtain ⟨v1, e1, q1⟩ := hd 2 _ _ (by simp) rfl rfl; subst q1; obtain ⟨d, op, ty, p, af, g⟩ := o; simp only at ho; subst ho; have ec : ∀ v, a.eval (.const v) = v := fun _ => rfl; exact Runs.val (by unfold execOp; generalize a.eval = ev at e1 ec ⊢; simp only [e1, ec]; rw [← hob]; go_simp) ⟨Lat.refl _, fun _ => rfl⟩) ?_
 refine AllStepsG.next (fun _ _ _ h _ => h) (fun j b h => by cases h) (fun a w hl hb hd o ho => by obtain ⟨v1, e1, q1⟩ := hd 3 _ _ (by simp) rfl rfl; subst q1; exact Runs.val (yv_move (S := fun _ => True) e1 o w ho trivial) ⟨Lat.refl _, fun _ => rfl⟩) ?_
 refine AllStepsG.skip (fun _ _ _ h _ => h) ⟨_, _, _, rfl, rfl, ⟨_, rfl⟩, by simp, fun _ _ h => h⟩ (fun _ => rfl) ?_
 refine AllStepsG.skip (fun _ _ _ h _ => h) ⟨_, _, _, rfl, rfl, ⟨_, rfl⟩, by simp, fun _ _ h => h⟩ (fun _ => rfl) ?_
 refine AllStepsG.skip (fun _ _ _ h _ => h) ⟨_, _, _, rfl, rfl, ⟨_, rfl⟩, by simp, fun _ _ h => h⟩ (fun _ => rfl) ?_
 refine AllStepsG.skip (fun _ _ _ h _ => h) ⟨_, _, _, rfl, rfl, ⟨_, rfl⟩, by simp, fun _ _ h => h⟩ (fun _ => rfl) ?_
 refine AllStepsG.skip (fun _ _ _ h _ => h) ⟨_, _, _, rfl, rfl, ⟨_, rfl⟩, by simp, fun _ _ h => h⟩ (fun _ => rfl) ?_
 refine AllStepsG.skip (fun _ _ _ h _ => h) ⟨_, _, _, rfl, rfl, ⟨_, rfl⟩, by simp, fun _ _ h => h⟩ (fun _ => rfl) ?_
 refine AllStepsG.skip (fun _ _ _ h _ => h) ⟨_, _, _, rfl, rfl, ⟨_, rfl⟩, by simp, fun _ _ h => h⟩ (fun _ => rfl) ?_
 refine AllStepsG.skip (fun _ _ _ h _ => h) ⟨_, _, _, rfl, rfl, ⟨_, rfl⟩, by simp, fun _ _ h => h⟩ (fun _ => rfl) ?_
 refine AllStepsG.next (fun _ _ _ h _ => h) (fun j b h => by cases h) (fun a w hl hb hd o ho => by obtain ⟨v1, e1, q1⟩ := hd 4 _ _ (by simp) rfl rfl; subst q1; exact Runs.val (yv_pick (S := fun _ => True) e1 (eval_const _ _) o w ho trivial) ⟨Lat.refl _, fun _ => rfl⟩) ?_
 exact AllStepsG.none
noncomputable def sbB_rows (b1 b2 b3 : Bool) (A1 A2 A3 : Option Addr) (n1 c1 n2 c2 n3 c3 g3 g4 : Nat) (z s1 s2 : Int) : List SRow := [
 ⟨Op.fieldAddr 139 (Operand.tmp 4) 1, some 8, none, [], fun v _ => v = .pointer (some ⟨g4, 2, none⟩)⟩,
 ⟨Op.load 136 (Operand.tmp 8), some 9, none, [0], fun v _ => v = .agg #[.bool b2, .slice A2 n2 c2]⟩,
 ⟨Op.call { callee := Callee.value (Operand.func 84), args := #[Operand.tmp 9], argTypes := #[136] }, some 10, none, [1], fun v _ => v = .int .i64 s1⟩,
 ⟨Op.binOp BinOp.leq 3 (Operand.tmp 10) (Operand.const (Value.int IntKind.i64 0)) 3, some 11, none, [2], fun v _ => v = .bool false⟩,
 ⟨Op.move (Operand.tmp 11), some 12, none, [3, 2], fun v _ => v = .bool false⟩,
 ⟨Op.fieldAddr 139 (Operand.tmp 4) 0, some 13, some (4, false), [4], fun v _ => v = .pointer (some ⟨g4, 0, none⟩)⟩,
 ⟨Op.load 136 (Operand.tmp 13), some 14, some (4, false), [5, 4], fun v _ => v = .agg #[.bool b1, .slice A1 n1 c1]⟩,
 ⟨Op.fieldAddr 139 (Operand.tmp 4) 1, some 15, some (4, false), [4], fun v _ => v = .pointer (some ⟨g4, 2, none⟩)⟩,
 ⟨Op.load 136 (Operand.tmp 15), some 16, some (4, false), [7, 4], fun v _ => v = .agg #[.bool b2, .slice A2 n2 c2]⟩,
 ⟨Op.call { callee := Callee.value (Operand.func 85), args := #[Operand.tmp 14, Operand.tmp 16], argTypes := #[136, 136] }, some 17, some (4, false), [6, 8, 4, 4], GV z 8⟩,
 ⟨Op.load 136 (Operand.tmp 3), some 18, some (4, false), [4], fun v _ => v = .agg #[.bool b3, .slice A3 n3 c3]⟩,
 ⟨Op.call { callee := Callee.value (Operand.func 86), args := #[Operand.tmp 17, Operand.tmp 18], argTypes := #[136, 136] }, some 19, some (4, false), [9, 10, 9, 4], fun v _ => v = .int .i64 s2⟩,
 ⟨Op.binOp BinOp.neq 3 (Operand.tmp 19) (Operand.const (Value.int IntKind.i64 0)) 3, some 20, some (4, false), [11, 4], fun v _ => v = .bool true⟩,
 ⟨Op.pick (Operand.tmp 12) (Operand.const (Value.bool true)) (Operand.tmp 20), some 21, none, [4, 12], fun v _ => v = .bool true⟩]
noncomputable def sbB_base (b1 b2 b3 : Bool) (A1 A2 A3 : Option Addr) (n1 c1 n2 c2 n3 c3 g3 g4 : Nat) (z s1 s2 : Int) (v0 v1 v2 v5 v6 v7 : Value) : List (Nat × Value) := [(3, .pointer (some ⟨g3, 0, none⟩)), (4, .pointer (some ⟨g4, 0, none⟩)), (0, v0), (1, v1), (2, v2), (5, v5), (6, v6), (7, v7)]
set_option maxRecDepth 100000 in
set_option maxHeartbeats 4000000 in
theorem sbB_steps (V : World) (b1 b2 b3 : Bool) (A1 A2 A3 : Option Addr) (n1 c1 n2 c2 n3 c3 g3 g4 : Nat) (z s1 s2 : Int) (v0 v1 v2 v5 v6 v7 : Value) (hob : decide (s1 ≤ 0) = false) (hob2 : (s2 != 0) = true) (R2 : ∀ w', Lat V w' → w'.rangeAt g4 2 [.bool b2, .slice A2 n2 c2]) (R1 : ∀ w', Lat V w' → w'.rangeAt g4 0 [.bool b1, .slice A1 n1 c1]) (R3 : ∀ w', Lat V w' → w'.rangeAt g3 0 [.bool b3, .slice A3 n3 c3]) (J2 : (Tryz.prog.info? 136).map (·.size) = some 2)
  (HS : ∀ w, Lat V w → Calls Tryz.prog 84 #[.agg #[.bool b2, .slice A2 n2 c2]] w (fun e w' => e = .returned (.int .i64 s1) ∧ Lat w w'))
  (HG : ∀ w, Lat V w → Calls Tryz.prog 85 #[.agg #[.bool b1, .slice A1 n1 c1], .agg #[.bool b2, .slice A2 n2 c2]] w (LongPost w z 8))
  (HC : ∀ b A n c w, Lat V w → Lg w b A n c z → n ≤ 8 → Calls Tryz.prog 86 #[.agg #[.bool b, .slice A n c], .agg #[.bool b3, .slice A3 n3 c3]] w (fun e w' => e = .returned (.int .i64 s2) ∧ Lat w w')) :
  AllStepsG Tryz.prog (sbB_rows b1 b2 b3 A1 A2 A3 n1 c1 n2 c2 n3 c3 g3 g4 z s1 s2) (sbB_base b1 b2 b3 A1 A2 A3 n1 c1 n2 c2 n3 c3 g3 g4 z s1 s2 v0 v1 v2 v5 v6 v7) V (sbB_rows b1 b2 b3 A1 A2 A3 n1 c1 n2 c2 n3 c3 g3 g4 z s1 s2) := by
 refine AllStepsG.next (fun _ _ _ h _ => h) (fun j b h => by cases h) (fun a w hl hb hd o ho => by have e1 := hb 4 _ rfl; obtain ⟨d, op, ty, p, af, g⟩ := o; simp only at ho; subst ho; have ec : ∀ v, a.eval (.const v) = v := fun _ => rfl; exact Runs.val (by unfold execOp; generalize a.eval = ev at e1 ec ⊢; simp only [e1, ec]; go_simp) ⟨Lat.refl _, fun _ => rfl⟩) ?_
 refine AllStepsG.next (fun _ _ _ h _ => h) (fun j b h => by cases h) (fun a w hl hb hd o ho => by obtain ⟨v1, e1, q1⟩ := hd 0 _ _ (by simp) rfl rfl; subst q1; exact Runs.val (yv_loadO (S := Lat V) e1 R2 Tryz.underlying136 rfl J2 o w ho hl) ⟨Lat.refl _, fun _ => rfl⟩) ?_
 refine AllStepsG.next (fun _ _ _ h _ => h) (fun j b h => by cases h) (fun a w hl hb hd o ho => by obtain ⟨v1, e1, q1⟩ := hd 1 _ _ (by simp) rfl rfl; subst q1; exact Runs.call (yv_call (f := 84) (fun _ => by go_simp) o ho (by simp only [List.map_toArray, List.map_cons, List.map_nil, eval_const, e1])) ((HS w hl).mono fun e w' h => ⟨_, h.1, h.2, fun _ => rfl⟩)) ?_
 refine AllStepsG.next (fun _ _ _ h _ => h) (fun j b h => by cases h) (fun a w hl hb hd o ho => by obtain ⟨v1, e1, q1⟩ := hd 2 _ _ (by simp) rfl rfl; subst q1; obtain ⟨d, op, ty, p, af, g⟩ := o; simp only at ho; subst ho; have ec : ∀ v, a.eval (.const v) = v := fun _ => rfl; exact Runs.val (by unfold execOp; generalize a.eval = ev at e1 ec ⊢; simp only [e1, ec]; rw [← hob]; go_simp) ⟨Lat.refl _, fun _ => rfl⟩) ?_
 refine AllStepsG.next (fun _ _ _ h _ => h) (fun j b h => by cases h) (fun a w hl hb hd o ho => by obtain ⟨v1, e1, q1⟩ := hd 3 _ _ (by simp) rfl rfl; subst q1; exact Runs.val (yv_move (S := fun _ => True) e1 o w ho trivial) ⟨Lat.refl _, fun _ => rfl⟩) ?_
 refine AllStepsG.next (fun _ _ _ h _ => h) (fun j b h => by cases h; exact ⟨_, rfl, ⟨_, rfl⟩, by simp, fun _ _ h => h⟩) (fun a w hl hb hd o ho => by have e1 := hb 4 _ rfl; obtain ⟨d, op, ty, p, af, g⟩ := o; simp only at ho; subst ho; have ec : ∀ v, a.eval (.const v) = v := fun _ => rfl; exact Runs.val (by unfold execOp; generalize a.eval = ev at e1 ec ⊢; simp only [e1, ec]; go_simp) ⟨Lat.refl _, fun _ => rfl⟩) ?_
 refine AllStepsG.next (fun _ _ _ h _ => h) (fun j b h => by cases h; exact ⟨_, rfl, ⟨_, rfl⟩, by simp, fun _ _ h => h⟩) (fun a w hl hb hd o ho => by obtain ⟨v1, e1, q1⟩ := hd 5 _ _ (by simp) rfl rfl; subst q1; exact Runs.val (yv_load (S := Lat V) e1 R1 Tryz.underlying136 rfl J2 o w ho hl) ⟨Lat.refl _, fun _ => rfl⟩) ?_
 refine AllStepsG.next (fun _ _ _ h _ => h) (fun j b h => by cases h; exact ⟨_, rfl, ⟨_, rfl⟩, by simp, fun _ _ h => h⟩) (fun a w hl hb hd o ho => by have e1 := hb 4 _ rfl; obtain ⟨d, op, ty, p, af, g⟩ := o; simp only at ho; subst ho; have ec : ∀ v, a.eval (.const v) = v := fun _ => rfl; exact Runs.val (by unfold execOp; generalize a.eval = ev at e1 ec ⊢; simp only [e1, ec]; go_simp) ⟨Lat.refl _, fun _ => rfl⟩) ?_
 refine AllStepsG.next (fun _ _ _ h _ => h) (fun j b h => by cases h; exact ⟨_, rfl, ⟨_, rfl⟩, by simp, fun _ _ h => h⟩) (fun a w hl hb hd o ho => by obtain ⟨v1, e1, q1⟩ := hd 7 _ _ (by simp) rfl rfl; subst q1; exact Runs.val (yv_loadO (S := Lat V) e1 R2 Tryz.underlying136 rfl J2 o w ho hl) ⟨Lat.refl _, fun _ => rfl⟩) ?_
 refine AllStepsG.next (fun _ _ _ h hl => h.mono hl) (fun j b h => by cases h; exact ⟨_, rfl, ⟨_, rfl⟩, by simp, fun _ _ h => h⟩) (fun a w hl hb hd o ho => by obtain ⟨v1, e1, q1⟩ := hd 6 _ _ (by simp) rfl rfl; subst q1; obtain ⟨v2, e2, q2⟩ := hd 8 _ _ (by simp) rfl rfl; subst q2; exact Runs.call (yv_call (f := 85) (fun _ => by go_simp) o ho (by simp only [List.map_toArray, List.map_cons, List.map_nil, eval_const, e1, e2])) ((HG w hl).mono fun e w' h => h.run)) ?_
 refine AllStepsG.next (fun _ _ _ h _ => h) (fun j b h => by cases h; exact ⟨_, rfl, ⟨_, rfl⟩, by simp, fun _ _ h => h⟩) (fun a w hl hb hd o ho => by have e1 := hb 3 _ rfl; exact Runs.val (yv_load (S := Lat V) e1 R3 Tryz.underlying136 rfl J2 o w ho hl) ⟨Lat.refl _, fun _ => rfl⟩) ?_
 refine AllStepsG.next (fun _ _ _ h _ => h) (fun j b h => by cases h; exact ⟨_, rfl, ⟨_, rfl⟩, by simp, fun _ _ h => h⟩) (fun a w hl hb hd o ho => by obtain ⟨v1, e1, q1⟩ := hd 9 _ _ (by simp) rfl rfl; obtain ⟨b1, A1, n1, c1, rfl, r1, m1⟩ := (show GV z 8 v1 w from q1); obtain ⟨v2, e2, q2⟩ := hd 10 _ _ (by simp) rfl rfl; subst q2; exact Runs.call (yv_call (f := 86) (fun _ => by go_simp) o ho (by simp only [List.map_toArray, List.map_cons, List.map_nil, eval_const, e1, e2])) ((HC _ _ _ _ w hl r1 m1).mono fun e w' h => ⟨_, h.1, h.2, fun _ => rfl⟩)) ?_
 refine AllStepsG.next (fun _ _ _ h _ => h) (fun j b h => by cases h; exact ⟨_, rfl, ⟨_, rfl⟩, by simp, fun _ _ h => h⟩) (fun a w hl hb hd o ho => by obtain ⟨v1, e1, q1⟩ := hd 11 _ _ (by simp) rfl rfl; subst q1; obtain ⟨d, op, ty, p, af, g⟩ := o; simp only at ho; subst ho; have ec : ∀ v, a.eval (.const v) = v := fun _ => rfl; exact Runs.val (by unfold execOp; generalize a.eval = ev at e1 ec ⊢; simp only [e1, ec]; rw [← hob2]; go_simp) ⟨Lat.refl _, fun _ => rfl⟩) ?_
 refine AllStepsG.next (fun _ _ _ h _ => h) (fun j b h => by cases h) (fun a w hl hb hd o ho => by obtain ⟨v1, e1, q1⟩ := hd 4 _ _ (by simp) rfl rfl; subst q1; obtain ⟨v2, e2, q2⟩ := hd 12 _ _ (by simp) rfl rfl; subst q2; exact Runs.val (yv_pickN (S := fun _ => True) e1 e2 o w ho trivial) ⟨Lat.refl _, fun _ => rfl⟩) ?_
 exact AllStepsG.none
set_option maxRecDepth 100000 in
set_option maxHeartbeats 4000000 in
theorem shCheck_bad (u v : W8) (hu : u.ok) (hv : v.ok) (hok : ¬ ShOk u.toInt v.toInt) (w : World) :
  Calls Tryz.prog 58 #[.agg #[.int .u64 u.a0, .int .u64 u.a1, .int .u64 u.a2, .int .u64 u.a3, .int .u64 u.a4, .int .u64 u.a5, .int .u64 u.a6, .int .u64 u.a7, .int .u64 v.a0, .int .u64 v.a1, .int .u64 v.a2, .int .u64 v.a3, .int .u64 v.a4, .int .u64 v.a5, .int .u64 v.a6, .int .u64 v.a7]] w (fun e w' => e = .returned (.int .i64 20) ∧ Lat w w') := by
 obtain ⟨N, hN⟩ : ∃ N, N = u.toInt := ⟨_, rfl⟩
 obtain ⟨D, hD⟩ : ∃ D, D = v.toInt := ⟨_, rfl⟩
 have HR : ∀ w, Calls Tryz.prog 83 #[.agg #[.int .u64 u.a0, .int .u64 u.a1, .int .u64 u.a2, .int .u64 u.a3, .int .u64 u.a4, .int .u64 u.a5, .int .u64 u.a6, .int .u64 u.a7, .int .u64 v.a0, .int .u64 v.a1, .int .u64 v.a2, .int .u64 v.a3, .int .u64 v.a4, .int .u64 v.a5, .int .u64 v.a6, .int .u64 v.a7]] w (RatPost w N D 8) := by intro w; rw [hN, hD]; exact ratRead_any u v hu hv w
 rw [← hN, ← hD] at hok
 have HO := Lib.hid hok
 clear hok
 clear hN hD hu hv
 go_enter Tryz.func58, Tryz.ntmps58
 go_wp2_with fail
 refine name1 (Q := fun W => Calls _ _ _ W _) ?_
 intro W l0 hs k1
 refine (from_any 1 (by decide) (by decide) W).mono ?_
 rintro e w1 ⟨b3, A3, n3, c3, rfl, p1, p2, la⟩
 replace k1 := k1.later la
 replace l0 := l0.trans la
 clear la hs
 have d0 := k1.cell 0
 have d1 := k1.cell 1
 have d2 := k1.cell 2
 have d3 := k1.cell 3
 have d4 := k1.cell 4
 have d5 := k1.cell 5
 have d6 := k1.cell 6
 have d7 := k1.cell 7
 have d8 := k1.cell 8
 have d9 := k1.cell 9
 have d10 := k1.cell 10
 have d11 := k1.cell 11
 have d12 := k1.cell 12
 have d13 := k1.cell 13
 have d14 := k1.cell 14
 have d15 := k1.cell 15
 go_upto_region 2 with (fail)
 refine name1 (Q := fun W => Code.wp _ _ _ _ W) ?_
 intro V1 la hs k3
 obtain ⟨g3, hg3⟩ : ∃ z, w1.heap.size = z := ⟨_, rfl⟩
 rw [hg3] at k3 ⊢
 replace k1 := k1.later la
 replace l0 := l0.trans la
 replace p1 := p1.later la
 clear d0 d1 d2 d3 d4 d5 d6 d7 d8 d9 d10 d11 d12 d13 d14 d15
 clear la hs hg3
 have d0 := k1.cell 0
 have d1 := k1.cell 1
 have d2 := k1.cell 2
 have d3 := k1.cell 3
 have d4 := k1.cell 4
 have d5 := k1.cell 5
 have d6 := k1.cell 6
 have d7 := k1.cell 7
 have d8 := k1.cell 8
 have d9 := k1.cell 9
 have d10 := k1.cell 10
 have d11 := k1.cell 11
 have d12 := k1.cell 12
 have d13 := k1.cell 13
 have d14 := k1.cell 14
 have d15 := k1.cell 15
 go_wp2_with fail
 refine (HR V1).mono ?_
 rintro e V2 ⟨b1, A1, n1, c1, b2, A2, n2, c2, rfl, q1, m1, q2, m2, la⟩
 replace k3 := k3.later la
 replace l0 := l0.trans la
 replace p1 := p1.later la
 clear d0 d1 d2 d3 d4 d5 d6 d7 d8 d9 d10 d11 d12 d13 d14 d15
 clear la k1
 go_upto_region 3 with (fail)
 refine name1 (Q := fun W => Code.wp _ _ _ _ W) ?_
 intro V3 la hs k4
 obtain ⟨g4, hg4⟩ : ∃ z, V2.heap.size = z := ⟨_, rfl⟩
 rw [hg4] at k4 ⊢
 replace k3 := k3.later la
 replace l0 := l0.trans la
 replace p1 := p1.later la
 replace q1 := q1.later la
 replace q2 := q2.later la
 clear la hs hg4
 have R1 : ∀ w', Lat V3 w' → w'.rangeAt g4 0 [.bool b1, .slice A1 n1 c1] := fun w' hl => rangeO (k4.later hl) 0 _ (by intro j v h; match j, h with | 0, h => exact h | 1, h => exact h)
 have R2 : ∀ w', Lat V3 w' → w'.rangeAt g4 2 [.bool b2, .slice A2 n2 c2] := fun w' hl => rangeO (k4.later hl) 2 _ (by intro j v h; match j, h with | 0, h => exact h | 1, h => exact h)
 have R3 : ∀ w', Lat V3 w' → w'.rangeAt g3 0 [.bool b3, .slice A3 n3 c3] := fun w' hl => (k3.later hl).rangeAll
 have J2 : (Tryz.prog.info? 136).map (·.size) = some 2 := by kernel_rfl
 obtain ⟨s1, hs1⟩ : ∃ s, sideOf D = s := ⟨_, rfl⟩
 obtain ⟨z, hz⟩ : ∃ z : Int, (Int.gcd N D : Int) = z := ⟨_, rfl⟩
 have HS : ∀ w, Lat V3 w → Calls Tryz.prog 84 #[.agg #[.bool b2, .slice A2 n2 c2]] w (fun e w' => e = .returned (.int .i64 s1) ∧ Lat w w') := fun w hl => by rw [← hs1]; exact side_any b2 A2 n2 c2 D w (q2.later hl) (by omega)
 have HG : ∀ w, Lat V3 w → Calls Tryz.prog 85 #[.agg #[.bool b1, .slice A1 n1 c1], .agg #[.bool b2, .slice A2 n2 c2]] w (LongPost w z 8) := fun w hl => by
  rw [← hz]
  exact (common_any b1 A1 n1 c1 N b2 A2 n2 c2 D w (q1.later hl) (q2.later hl) (by omega) (by omega)).mono fun e w' h => h.leS (by omega)
 by_cases hD : D ≤ 0
 ·have hob : decide (s1 ≤ 0) = true := by rw [← hs1, side_le]; exact decide_eq_true hD
  have hob2 : ((1 : Int) != 0) = true := rfl
  obtain ⟨s2, hs2⟩ : ∃ s2, s2 = (1 : Int) := ⟨_, rfl⟩
  rw [← hs2] at hob2
  clear HO hs1 hz hs2
  go_upto_region 3 with (fail)
  rename_i KN hKN
  refine wp_region_slotsG (sbA_rows b1 b2 b3 A1 A2 A3 n1 c1 n2 c2 n3 c3 g3 g4 z s1 s2) (sbA_base b1 b2 b3 A1 A2 A3 n1 c1 n2 c2 n3 c3 g3 g4 z s1 s2 _ _ _ _ _ _) 22 14 [[], [0], [1], [2], [3, 2], [4], [5, 4], [4], [7, 4], [6, 8, 4, 4], [4], [9, 10, 9, 4], [11, 4], [4, 12]] (by kernel_rfl) (by kernel_rfl) (by kernel_rfl) (by kernel_rfl) (by kernel_rfl) (by kernel_rfl) (by rfl) rfl (base_of (base_cons rfl (base_cons rfl (base_cons rfl (base_cons rfl (base_cons rfl (base_cons rfl (base_cons rfl (base_cons rfl (base_nil _)))))))))) (sbA_steps V3 b1 b2 b3 A1 A2 A3 n1 c1 n2 c2 n3 c3 g3 g4 z s1 s2 _ _ _ _ _ _ hob R2 J2 HS) ?_
  ·intro a9 W9 hsz9 hdf9 hL9 hbs hsl
   obtain ⟨v9, h9, q9⟩ := hsl 13 _ _ rfl rfl
   obtain rfl : v9 = .bool true := q9
   have w21 := slot_getD h9
   clear h9
   refine hKN _ _ ?_
   obtain ⟨T9, df9⟩ := a9
   obtain rfl : df9 = [] := hdf9
   obtain ⟨f, hf, rfl⟩ := spell22 T9 hsz9
   have X9 := fun k v h => (hf k).trans (slot_getD (hbs k v h))
   have x21 := (hf 21).trans w21
   clear hbs hsl hf hsz9 hKN w21
   simp only [X9 3 _ rfl, X9 4 _ rfl, X9 0 _ rfl, X9 1 _ rfl, X9 2 _ rfl, X9 5 _ rfl, X9 6 _ rfl, X9 7 _ rfl, x21]
   clear x21 X9
   have LF := l0.trans hL9
   clear l0 hL9
   go_wp2
   go_ret
   exact ⟨rfl, LF⟩
 ·have hob : decide (s1 ≤ 0) = false := by rw [← hs1, side_le]; exact decide_eq_false hD
  obtain ⟨s2, hs2⟩ : ∃ s, sideOf (z - 1) = s := ⟨_, rfl⟩
  have hob2 : (s2 != 0) = true := by
   rw [← hs2]
   refine side_ne ?_
   intro h
   exact HO.out ⟨by omega, by omega⟩
  have HC : ∀ b A n c w, Lat V3 w → Lg w b A n c z → n ≤ 8 → Calls Tryz.prog 86 #[.agg #[.bool b, .slice A n c], .agg #[.bool b3, .slice A3 n3 c3]] w (fun e w' => e = .returned (.int .i64 s2) ∧ Lat w w') := fun b A n c w hl h hn => by
   rw [← hs2]
   exact lcmp_any b A n c z b3 A3 n3 c3 1 w h (p1.later hl) (by omega) (by omega)
  clear HO hs1 hz hs2 hD
  go_upto_region 3 with (fail)
  rename_i KN hKN
  refine wp_region_slotsG (sbB_rows b1 b2 b3 A1 A2 A3 n1 c1 n2 c2 n3 c3 g3 g4 z s1 s2) (sbB_base b1 b2 b3 A1 A2 A3 n1 c1 n2 c2 n3 c3 g3 g4 z s1 s2 _ _ _ _ _ _) 22 14 [[], [0], [1], [2], [3, 2], [4], [5, 4], [4], [7, 4], [6, 8, 4, 4], [4], [9, 10, 9, 4], [11, 4], [4, 12]] (by kernel_rfl) (by kernel_rfl) (by kernel_rfl) (by kernel_rfl) (by kernel_rfl) (by kernel_rfl) (by rfl) rfl (base_of (base_cons rfl (base_cons rfl (base_cons rfl (base_cons rfl (base_cons rfl (base_cons rfl (base_cons rfl (base_cons rfl (base_nil _)))))))))) (sbB_steps V3 b1 b2 b3 A1 A2 A3 n1 c1 n2 c2 n3 c3 g3 g4 z s1 s2 _ _ _ _ _ _ hob hob2 R2 R1 R3 J2 HS HG HC) ?_
  ·intro a9 W9 hsz9 hdf9 hL9 hbs hsl
   obtain ⟨v9, h9, q9⟩ := hsl 13 _ _ rfl rfl
   obtain rfl : v9 = .bool true := q9
   have w21 := slot_getD h9
   clear h9
   refine hKN _ _ ?_
   obtain ⟨T9, df9⟩ := a9
   obtain rfl : df9 = [] := hdf9
   obtain ⟨f, hf, rfl⟩ := spell22 T9 hsz9
   have X9 := fun k v h => (hf k).trans (slot_getD (hbs k v h))
   have x21 := (hf 21).trans w21
   clear hbs hsl hf hsz9 hKN w21
   simp only [X9 3 _ rfl, X9 4 _ rfl, X9 0 _ rfl, X9 1 _ rfl, X9 2 _ rfl, X9 5 _ rfl, X9 6 _ rfl, X9 7 _ rfl, x21]
   clear x21 X9
   have LF := l0.trans hL9
   clear l0 hL9
   go_wp2
   go_ret
   exact ⟨rfl, LF⟩
end Go.Proofs.YtogkkhaepfablaaGreat
namespace Go.Proofs.YtogkkhaepfablaaGreat
open Go.RowKit Go.Shelf
set_option linter.unusedSimpArgs false
set_option linter.unusedVariables false
set_option maxRecDepth 100000 in
set_option maxHeartbeats 8000000 in
theorem pick_over (A : Option Addr) (n c s : Nat) (ws : List W8) (hn : n ≤ 400) (sg : Nat → Int) (HG : ∀ i x, ws[i]? = some x → ∀ w, Calls Tryz.prog 23 #[.agg #[.int .u64 x.a0, .int .u64 x.a1, .int .u64 x.a2, .int .u64 x.a3, .int .u64 x.a4, .int .u64 x.a5, .int .u64 x.a6, .int .u64 x.a7]] w (fun e w' => e = .returned (.int .i64 (sg i)) ∧ Lat w w')) (w : World) (S : Nat → W8) (HS0 : Hid (∀ i, i < n → 0 ≤ sg i)) (HSUM : ∀ g9 W, Lat w W → g9 < W.heap.size → w.heap.size ≤ g9 → Blk W g9 34 #[.int .i64 0] → Calls Tryz.prog 51 #[.slice A n c, .func (.func 52) #[] #[.pointer (some ⟨g9, 0, none⟩)]] W
   (fun e w' => ∃ v, e = .returned v ∧ OwnM w' W.heap.size 26 8 v (wRows (upsW S n)) ∧ Blk w' g9 34 #[.int .i64 6] ∧ LatP (· = g9) W w')) (hr : RowM w A 8 n (wRows ws)) :
  Calls Tryz.prog 16 #[.agg #[.int .u64 s], .slice A n c] w (PickEnd w 0 0 6) := by
 have HGH := Lib.hid HG
 clear HG
 have hn4 : ¬ (400 : Int) < (n : Int) := by omega
 go_enter Tryz.func16, Tryz.ntmps16
 go_upto_region 4 with (fail)
 refine name2 (Q := fun W => Code.wp _ _ _ _ W) ?_
 intro W hl hs k2 k5
 have R0 := hr.later hl
 clear hr
 go_loopw [21] (fun i wr => ∃ j : Nat, j ≤ n ∧ i = .int .i64 j ∧ Lat W wr) (fun i _ => n - (intOf i).toNat)
 case atStart => exact ⟨0, by omega, rfl, Lat.refl _⟩
 case round =>
  obtain ⟨j, hj, rfl, hlr⟩ := hrel
  by_cases hlt : j < n
  ·obtain ⟨g, o, x, rfl, hgl2, hx, hxl, hrg⟩ := (R0.later hlr).at hlt
   obtain ⟨x, hxw, rfl⟩ := row_w hx
   have hrg : wr.rangeAt g (o + j * 8) [.int .u64 x.a0, .int .u64 x.a1, .int .u64 x.a2, .int .u64 x.a3, .int .u64 x.a4, .int .u64 x.a5, .int .u64 x.a6, .int .u64 x.a7] := hrg
   have HG1 := HGH.out j x hxw
   have hltI : (j : Int) < (n : Int) := by omega
   have b0 : (0 : Int) ≤ (j : Int) := by omega
   clear hx hxl hxw
   go_wp2_with (refine wpList_load_mid (by rfl) 26 (.tmp 23) (by rfl) g (o + j * 8) (by rfl) [.int .u64 x.a0, .int .u64 x.a1, .int .u64 x.a2, .int .u64 x.a3, .int .u64 x.a4, .int .u64 x.a5, .int .u64 x.a6, .int .u64 x.a7] _ hrg Tryz.underlying26 rfl (by kernel_rfl) ?_)
   refine name1 (Q := fun W => Calls _ _ _ W _) ?_
   intro V1 l1 hs1 k8
   refine (HG1 V1).mono ?_
   rintro e V2 ⟨rfl, l2⟩
   have LL := hlr.trans (l1.trans l2)
   clear l1 l2 hs1 k8 hrg HG1
   have hsg := HS0.out j hlt
   have hsd : decide (sg j < 0) = false := decide_eq_false (by omega)
   clear HS0
   go_wp2
   go_roundw
   case rel => exact ⟨j + 1, by omega, by go_num, LL⟩
   case measure => simp [intOf]; omega
  ·obtain rfl : j = n := by omega
   clear hj hlt
   have k2 := k2.later hlr
   have k5 := k5.later hlr
   have L1 := hl.trans hlr
   have hs1 : w.heap.size + 2 ≤ wr.heap.size := by have := hlr.size; omega
   clear hlr hs R0
   go_wp2_with fail
   refine name1 (Q := fun W => Calls _ _ _ W _) ?_
   intro V1 l1 hs2 k9
   refine (HSUM wr.heap.size V1 (L1.trans l1) hs2 (by omega) k9).mono ?_
   rintro e V2 ⟨v, rfl, O, k9, l2⟩
   have k2 := (k2.later l1).keepP l2 (by omega)
   have k5 := (k5.later l1).keepP l2 (by omega)
   have L2 : Lat w V2 := l2.narrow (L1.trans l1) (by omega)
   have hs3 : w.heap.size + 2 ≤ V2.heap.size := by have := l2.size; omega
   obtain ⟨g9, hg9⟩ : ∃ z, wr.heap.size = z := ⟨_, rfl⟩
   have h29 : w.heap.size + 2 ≤ g9 := by omega
   rw [hg9] at k9 ⊢
   obtain ⟨A', c', rfl, R, _, hA', _⟩ := O.form
   rw [upsW_length] at R ⊢
   clear l1 l2 L1 hs1 hs2 hg9 HSUM O
   have e9 : V2.cell? ⟨g9, 0, none⟩ = some (.int .i64 6) := k9.cell 0
   have c5 : V2.cell? ⟨w.heap.size + 1, 0, none⟩ = some (.int .u64 0) := k5.cell 0
   have f5 := k5.frozen 0
   have h5 := k5.lt
   have e9b : (V2.setCell ⟨w.heap.size + 1, 0, none⟩ (.int .u64 0)).cell? ⟨g9, 0, none⟩ = some (.int .i64 6) := by
    rw [World.cell?_of_block (a := ⟨g9, 0, none⟩) (Below.heap_setCell V2 ⟨w.heap.size + 1, 0, none⟩ _ g9 (by show ¬ g9 = w.heap.size + 1; omega))]
    exact e9
   go_upto_region 12 with (fail)
   go_region
   go_wp2
   refine name_set (Q := fun W => bodyPost _ _ _ _ _ W.drew) k5 ?_
   intro V3 j5 _ _ l5
   have c6 := (j5.later (Lat.drew V3)).cell 0
   refine bodyPost_ret (v := .tuple #[.int .i64 0, .agg #[.int .u64 0], .int .i64 6]) (by simp [results, Tryz.results16, go_sem, c6]) rfl ?_
   exact ⟨rfl, (l5.narrow L2 (by omega)).trans (Lat.drew _)⟩
set_option maxRecDepth 100000 in
set_option maxHeartbeats 8000000 in
theorem pick_long (A : Option Addr) (n c s : Nat) (hn : 400 < n) (w : World) : Calls Tryz.prog 16 #[.agg #[.int .u64 s], .slice A n c] w (PickEnd w 0 0 3) := by
 have hn4 : (400 : Int) < (n : Int) := by omega
 go_enter Tryz.func16, Tryz.ntmps16
 go_upto_region 1 with (fail)
 refine name2 (Q := fun W => Code.wp _ _ _ _ W) ?_
 intro W hl hs k2 k5
 have c5 : W.cell? ⟨w.heap.size + 1, 0, none⟩ = some (.int .u64 0) := k5.cell 0
 have f5 := k5.frozen 0
 have h5 := k5.lt
 go_wp2
 refine name_set (Q := fun W => bodyPost _ _ _ _ _ W) k5 ?_
 intro V3 j5 _ _ l5
 have c6 : V3.cell? ⟨w.heap.size + 1, 0, none⟩ = some (.int .u64 0) := j5.cell 0
 refine bodyPost_ret (v := .tuple #[.int .i64 0, .agg #[.int .u64 0], .int .i64 3]) (by simp [results, Tryz.results16, go_sem, c6]) rfl ?_
 exact ⟨rfl, l5.narrow hl (by omega)⟩
def satS : List Int → Int → Int
 | [], a => a
 | z :: l, a => satS l (if a + z < P511 then a + z else 0)
def satE : List Int → Int → Int → Int
 | [], _, e => e
 | z :: l, a, e => satE l (if a + z < P511 then a + z else 0) (if a + z < P511 then e else 6)
theorem satS_snoc (z : Int) : ∀ (l : List Int) (a : Int), satS (l ++ [z]) a = if satS l a + z < P511 then satS l a + z else 0
 | [], a => rfl
 | y :: l, a => satS_snoc z l _
theorem satE_snoc (z : Int) : ∀ (l : List Int) (a e : Int), satE (l ++ [z]) a e = if satS l a + z < P511 then satE l a e else 6
 | [], a, e => rfl
 | y :: l, a, e => satE_snoc z l _ _
theorem satS_in : ∀ (l : List Int), (∀ z ∈ l, 0 ≤ z) → ∀ a, 0 ≤ a → a < P511 → 0 ≤ satS l a ∧ satS l a < P511
 | [], _, a, h0, h1 => ⟨h0, h1⟩
 | z :: l, h, a, h0, h1 => by
   have hz := h z (List.mem_cons_self ..)
   refine satS_in l (fun y hy => h y (List.mem_cons_of_mem _ hy)) _ ?_ ?_
   ·split <;> omega
   ·split
    ·assumption
    ·exact P511_pos
theorem satE_keep : ∀ (l : List Int) (a : Int), satE l a 6 = 6
 | [], _ => rfl
 | z :: l, a => by
   show satE l _ (if a + z < P511 then 6 else 6) = 6
   rw [ite_self]
   exact satE_keep l _
theorem satE_big : ∀ (l : List Int), (∀ z ∈ l, 0 ≤ z) → ∀ a e, P511 ≤ a + l.sum → a < P511 → satE l a e = 6
 | [], _, a, e, h, h1 => by rw [List.sum_nil] at h; omega
 | z :: l, hz, a, e, h, h1 => by
   show satE l (if a + z < P511 then a + z else 0) (if a + z < P511 then e else 6) = 6
   rw [List.sum_cons] at h
   by_cases hb : a + z < P511
   ·rw [if_pos hb, if_pos hb]
    exact satE_big l (fun y hy => hz y (List.mem_cons_of_mem _ hy)) _ _ (by omega) hb
   ·rw [if_neg hb, if_neg hb]
    exact satE_keep l _
theorem pick_big (s : Nat) (ws : List W8) (hok : ∀ x ∈ ws, x.ok) (hns : ∀ x ∈ ws, 0 ≤ x.toInt) (hlen : ws.length ≤ 400) (hbig : P511 ≤ (ws.map W8.toInt).sum) (A : Option Addr) (c : Nat) (w : World) (hr : RowM w A 8 ws.length (wRows ws)) :
  Calls Tryz.prog 16 #[.agg #[.int .u64 s], .slice A ws.length c] w (PickEnd w 0 0 6) := by
 have hP := P511_pos
 have hnz : ∀ z ∈ ws.map W8.toInt, 0 ≤ z := fun z hz => by
  obtain ⟨x, hx, rfl⟩ := List.mem_map.1 hz
  exact hns x hx
 have hnt : ∀ i, ∀ z ∈ (ws.map W8.toInt).take i, 0 ≤ z := fun i z hz => hnz z (List.mem_of_mem_take hz)
 have htk : ∀ i x, ws[i]? = some x → (ws.map W8.toInt).take (i + 1) = (ws.map W8.toInt).take i ++ [x.toInt] := fun i x h => by
  obtain ⟨hlt, e⟩ := List.getElem?_eq_some_iff.1 h
  rw [List.take_succ_eq_append_getElem (by simpa using hlt)]
  simp [e]
 have hlast : (ws.map W8.toInt).take ws.length = ws.map W8.toInt := List.take_of_length_le (by simp)
 have HSUM : ∀ g9 W, Lat w W → g9 < W.heap.size → w.heap.size ≤ g9 → Blk W g9 34 #[.int .i64 0] → Calls Tryz.prog 51 #[.slice A ws.length c, .func (.func 52) #[] #[.pointer (some ⟨g9, 0, none⟩)]] W
   (fun e w' => ∃ v, e = .returned v ∧ OwnM w' W.heap.size 26 8 v (wRows (upsW (fun i => W8.of (satS ((ws.map W8.toInt).take i) 0)) ws.length)) ∧ Blk w' g9 34 #[.int .i64 6] ∧ LatP (· = g9) W w') := by
  intro g9 W hl hg hgw hb9
  have h := sums_in A ws.length c ws (fun i => W8.of (satS ((ws.map W8.toInt).take i) 0)) (fun i => satE ((ws.map W8.toInt).take i) 0 0) (by rw [W8.zero_eq]; rfl) (by omega) g9 (fun i x W' hx hb' => ?_) W (hr.later hl) (fun a ha => ?_) hb9
  ·rw [hlast, satE_big _ hnz 0 0 (by omega) hP] at h
   exact h
  ·have hxo := hok x (List.mem_of_getElem? hx)
   have hx0 := hns x (List.mem_of_getElem? hx)
   have hb := satS_in _ (hnt i) 0 (by omega) hP
   rw [htk i x hx, satE_snoc, satS_snoc]
   obtain ⟨S, hS⟩ : ∃ S, satS ((ws.map W8.toInt).take i) 0 = S := ⟨_, rfl⟩
   rw [hS] at hb ⊢
   by_cases hlt : S + x.toInt < P511
   ·rw [if_pos hlt, if_pos hlt]
    refine plus_in (W8.of S) x (W8.of (S + x.toInt)) 0 _ _ (fun w => ?_) (fun _ => rfl) (fun h => absurd rfl h) g9 W' hb'
    refine (wAdd_any (W8.of S) x (W8.of_ok _) hxo w).mono ?_
    rintro e w' ⟨u, r, rfl, h, hl'⟩
    rw [W8.of_toInt (by omega) hb.2] at h
    rcases h with ⟨_, _, rfl, rfl⟩ | ⟨h, _, _⟩
    ·exact ⟨rfl, hl'⟩
    ·omega
   ·rw [if_neg hlt, if_neg hlt]
    refine plus_in (W8.of S) x (W8.of 0) 6 _ _ (fun w => ?_) (fun h => absurd h (by decide)) (fun _ => rfl) g9 W' hb'
    refine (wAdd_any (W8.of S) x (W8.of_ok _) hxo w).mono ?_
    rintro e w' ⟨u, r, rfl, h, hl'⟩
    rw [W8.of_toInt (by omega) hb.2] at h
    rcases h with ⟨_, h, _, _⟩ | ⟨_, rfl, rfl⟩
    ·omega
    ·exact ⟨by rw [W8.zero_eq], hl'⟩
  ·intro e
   rcases Nat.eq_zero_or_pos ws.length with hn0 | hp
   ·rw [List.length_eq_zero_iff.1 hn0] at hbig
    simp at hbig
    omega
   ·obtain ⟨g, o, e', hlt, _⟩ := hr.2.2 hp
    rw [ha] at e'
    cases e'
    have : g = g9 := e
    omega
 exact pick_over A ws.length c s ws hlen (fun i => sideOf ((ws.getD i W8.zero).toInt)) (fun i x h w => by
  have e : ws.getD i W8.zero = x := by rw [List.getD_eq_getElem?_getD, h]; rfl
  show Calls _ _ _ _ (fun e w' => e = .returned (.int .i64 (sideOf (ws.getD i W8.zero).toInt)) ∧ Lat w w')
  rw [e]
  exact wSign_any x (hok x (List.mem_of_getElem? h)) w) w _ (Lib.hid fun i hi => by
  have e : ws.getD i W8.zero = ws[i] := by rw [List.getD_eq_getElem?_getD, List.getElem?_eq_getElem hi]; rfl
  show 0 ≤ sideOf (ws.getD i W8.zero).toInt
  rw [e]
  exact (side_nonneg (hns _ (List.getElem_mem hi))).1) HSUM hr
end Go.Proofs.YtogkkhaepfablaaGreat
