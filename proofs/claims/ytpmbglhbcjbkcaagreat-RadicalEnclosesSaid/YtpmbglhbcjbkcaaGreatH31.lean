/- Several texts in one: InvK. -/
import Derived.Test.YtpmbglhbcjbkcaaGreatH20
import Derived.Test.YtpmbglhbcjbkcaaGreatH14
namespace Go.Proofs.YtpmbglhbcjbkcaaGreat
set_option maxHeartbeats 16000000
set_option maxRecDepth 100000
open Go.RowKit
set_option linter.unusedSimpArgs false
def zbJ : Value → Bool
 | .int .u64 _ => false
 | .int .i64 _ => false
 | _ => true
def zeW (w w' : World) : Prop := Lat w w' ∨ ∃ g T cs, Blk w g T cs ∧ cs.all zbJ = true ∧ LatP (· = g) w w'
structure zca where
 ia : Nat
 d : Tmp
 T : TypeId
 zs : Array Value
 is : Nat
 src : Tmp
 js : Nat
structure MOkK (P : Program) (rows : List SRow) (M : zca) : Prop where
 alloc : ∀ (ev : Operand → Value) (w : World) (o : Oper), o.op = .alloc M.T → (execOp ev o).run P w = .ok (.value (.pointer (some ⟨w.heap.size, 0, none⟩))) (w.alloc (.cells M.zs M.T))
 adst : (rows[M.ia]?).map (fun r => (r.op, r.dst, r.guard)) = some (.alloc M.T, some M.d, none)
 any : ∀ r v w, rows[M.ia]? = some r → r.V v w
 store : (rows[M.is]?).map (fun r => (r.op, r.dst, r.guard)) = some (.store M.T (.tmp M.d) (.tmp M.src), none, none)
 deps : ∀ r, rows[M.is]? = some r → M.ia ∈ r.deps ∧ M.js ∈ r.deps
 sdst : (rows[M.js]?).map (·.dst) = some (some M.src)
 src : ∀ r v w, rows[M.js]? = some r → r.V v w → ∃ c : Array Value, v = .agg c ∧ c.size = M.zs.size ∧ c.all (·.oneCell') = true
 info : (P.info? M.T).map (·.size) = some M.zs.size
 raw : M.zs.all zbJ = true
structure MAtK (W0 : World) (mem : List zca) (m : Nat) (a : Act) (w : World) (k : Nat) (M : zca) (g : Nat) (cur : Array Value) : Prop where
 slot : Slot a M.d (.pointer (some ⟨g, 0, none⟩))
 new : W0.heap.size ≤ g
 blk : Blk w g M.T cur
 sz : cur.size = M.zs.size
 first : m.testBit M.is = false → cur = M.zs
 put : m.testBit M.is = true → Slot a M.src (.agg cur)
 far : ∀ k' M' g', k' ≠ k → mem[k']? = some M' → m.testBit M'.ia = true → Slot a M'.d (.pointer (some ⟨g', 0, none⟩)) → g ≠ g'
structure zny (rows : List SRow) (base : List (Nat × Value)) (N : Nat) (W0 : World) (mem : List zca) (m : Nat) (a : Act) (w : World) : Prop where
 s : zeV rows base N W0 m a w
 shut : ∀ M ∈ mem, m.testBit M.is = true → m.testBit M.ia = true ∧ m.testBit M.js = true
 at_ : ∀ k M, mem[k]? = some M → m.testBit M.ia = true → ∃ g cur, MAtK W0 mem m a w k M g cur
theorem zeo {a : Act} {d : Tmp} {v v' : Value} (h : Slot a d v) (h' : Slot a d v') : v = v' := by unfold Slot at h h'; rw [h] at h'; exact Option.some.inj h'
theorem zij {g g' : Nat} (h : Value.pointer (some ⟨g, 0, none⟩) = Value.pointer (some ⟨g', 0, none⟩)) : g = g' := by cases h; rfl
def StepsAtK (P : Program) (rows : List SRow) (base : List (Nat × Value)) (W0 : World) (skip : List Nat) : Nat → List SRow → Prop
 | _, [] => True
 | k, r :: rs => (k ∈ skip ∨ zkm P rows base W0 r) ∧ StepsAtK P rows base W0 skip (k + 1) rs
theorem StepsAtK.get {P : Program} {rows : List SRow} {base : List (Nat × Value)} {W0 : World} {skip : List Nat} : ∀ {l : List SRow} {k : Nat}, StepsAtK P rows base W0 skip k l → ∀ i r, l[i]? = some r → k + i ∉ skip → zkm P rows base W0 r
 | [], _, _, i, r, h, _ => by simp at h
 | x :: xs, k, h, 0, r, hr, hs => by
   simp only [List.getElem?_cons_zero, Option.some.injEq] at hr
   subst hr
   exact h.1.resolve_left (by simpa using hs)
 | x :: xs, k, h, i + 1, r, hr, hs => StepsAtK.get h.2 i r (by simpa using hr) (by rw [show k + 1 + i = k + (i + 1) by omega]; exact hs)
theorem StepsAtK.none {P : Program} {rows : List SRow} {base : List (Nat × Value)} {W0 : World} {skip : List Nat} {k : Nat} : StepsAtK P rows base W0 skip k [] := trivial
theorem StepsAtK.skip {P : Program} {rows : List SRow} {base : List (Nat × Value)} {W0 : World} {skip : List Nat} {k : Nat} {r : SRow} {rs : List SRow} (h : k ∈ skip) (hs : StepsAtK P rows base W0 skip (k + 1) rs) : StepsAtK P rows base W0 skip k (r :: rs) := ⟨.inl h, hs⟩
theorem StepsAtK.next {P : Program} {rows : List SRow} {base : List (Nat × Value)} {W0 : World} {skip : List Nat} {k : Nat} {r : SRow} {rs : List SRow} (h1 : ∀ v w w', r.V v w → Lat w w' → r.V v w')
  (h2 : ∀ j b, r.guard = some (j, b) → ∃ rj : SRow, rows[j]? = some rj ∧ (∃ d, rj.dst = some d) ∧ j ∈ r.deps ∧ ∀ v w, rj.V v w → v = .bool b)
  (h3 : ∀ (a : Act) (w : World), Lat W0 w → (∀ k v, base.lookup k = some v → a.eval (.tmp k) = v) → (∀ (j : Nat) (rj : SRow) (d : Tmp), j ∈ r.deps → rows[j]? = some rj → rj.dst = some d → ∃ v, a.eval (.tmp d) = v ∧ rj.V v w) →
    ∀ o : Oper, o.op = r.op → Runs P o a.eval w (fun v w' => Lat w w' ∧ (r.dst.isSome = true → r.V v w'))) (hs : StepsAtK P rows base W0 skip (k + 1) rs) : StepsAtK P rows base W0 skip k (r :: rs) := ⟨.inr ⟨h1, h2, h3⟩, hs⟩
def AllKeep : List SRow → Prop
 | [] => True
 | r :: rs => (∀ v w w', r.V v w → zeW w w' → r.V v w') ∧ AllKeep rs
theorem AllKeep.get {l : List SRow} (h : AllKeep l) : ∀ r ∈ l, ∀ v w w', r.V v w → zeW w w' → r.V v w' := by
 induction l with
 | nil => intro r hr; cases hr
 | cons x xs ih =>
   intro r hr
   rcases List.mem_cons.1 hr with rfl | hr
   ·exact h.1
   ·exact ih h.2 r hr
def AllMemK (P : Program) (rows : List SRow) : List zca → Prop
 | [] => True
 | M :: Ms => MOkK P rows M ∧ AllMemK P rows Ms
theorem AllMemK.get {P : Program} {rows : List SRow} {l : List zca} (h : AllMemK P rows l) : ∀ M ∈ l, MOkK P rows M := by
 induction l with
 | nil => intro r hr; cases hr
 | cons x xs ih =>
   intro r hr
   rcases List.mem_cons.1 hr with rfl | hr
   ·exact h.1
   ·exact ih h.2 r hr
theorem zbt {P : Program} {ops : Array Oper} {Q : Exit → Act → World → Prop} {id : Nat} {a : Act} {w : World} (rows : List SRow) (base : List (Nat × Value)) (mem : List zca) (N n : Nat) (tbl : List (List Nat))
  (hm : P.follows .mixedOrders = true) (hn : ops.size = n) (ht : zaQ ops = tbl) (hd : ((List.range n).all fun i => ((tbl[i]?).getD []).all fun j => decide (j < i)) = true) (hk : ops.toList.map zbQ = rows.map SRow.key)
  (hdis : distinct rows base N = true) (hmd : ((List.range mem.length).all fun i => (List.range mem.length).all fun j => (i == j) || (match mem[i]?, mem[j]? with | some A, some B => A.ia != B.ia && A.is != B.is && A.ia != B.is && A.is != B.ia | _, _ => true)) = true)
  (hsz : a.tmps.size = N) (hdf : a.defers = []) (hb : ∀ k v, base.lookup k = some v → Slot a k v)
  (hpureL : AllKeep rows) (hmemL : AllMemK P rows mem) (hstepL : StepsAtK P rows base w (mem.flatMap fun M => [M.ia, M.is]) 0 rows)
  (hend : ∀ a W, a.tmps.size = N → a.defers = [] → Lat w W → (∀ k v, base.lookup k = some v → Slot a k v) → (∀ (j : Nat) r d, rows[j]? = some r → r.dst = some d → ∃ v, Slot a d v ∧ r.V v W) →
    (∀ (k : Nat) (M : zca), mem[k]? = some M → ∃ (g : Nat) (cur : Array Value), Slot a M.d (.pointer (some ⟨g, 0, none⟩)) ∧ w.heap.size ≤ g ∧ Blk W g M.T cur ∧ Slot a M.src (.agg cur) ∧ ∀ (k' : Nat) (M' : zca) (g' : Nat), k' ≠ k → mem[k']? = some M' → Slot a M'.d (.pointer (some ⟨g', 0, none⟩)) → g ≠ g') →
    Q .normal a W) : (Code.region id ops true).wp P Q a w := by
 have hpure := hpureL.get
 have hmem := hmemL.get
 have hstep : ∀ i r, rows[i]? = some r → (∀ M ∈ mem, i ≠ M.ia ∧ i ≠ M.is) → zkm P rows base w r := fun i r hr hne => hstepL.get i r hr (fun h => by
  obtain ⟨M, hM, h2⟩ := List.mem_flatMap.1 h
  rw [Nat.zero_add] at h2
  have h3 := hne M hM
  simp only [List.mem_cons, List.not_mem_nil, or_false] at h2
  rcases h2 with h2 | h2
  ·exact h3.1 h2
  ·exact h3.2 h2)
 have hrow : ∀ {i : Nat} {o : Oper}, ops[i]? = some o → ∃ r, rows[i]? = some r ∧ zbQ o = r.key := by
  intro i o ho
  have h1 : (ops.toList.map zbQ)[i]? = some (zbQ o) := by simp [ho]
  rw [hk, List.getElem?_map] at h1
  cases hr : rows[i]? with
  | none => rw [hr] at h1; cases h1
  | some r => rw [hr] at h1; simp only [Option.map_some, Option.some.injEq] at h1; exact ⟨r, rfl, h1.symm⟩
 simp only [distinct, Bool.and_eq_true] at hdis
 obtain ⟨hdis1, hdis2⟩ := hdis
 have hdst : ∀ {i : Nat} {r : SRow} {d : Tmp}, rows[i]? = some r → r.dst = some d → d < N ∧ base.lookup d = none := by
  intro i r d h1 h2
  have := List.all_eq_true.1 hdis1 d (List.mem_filterMap.2 ⟨r, List.mem_of_getElem? h1, h2⟩)
  simpa using this
 have hlen : rows.length = n := by
  have := congrArg List.length hk
  simp at this
  omega
 -- two rows of memory differ in all
 have hmdif : ∀ {i j : Nat} {A B : zca}, mem[i]? = some A → mem[j]? = some B → i ≠ j → A.ia ≠ B.ia ∧ A.is ≠ B.is ∧ A.ia ≠ B.is ∧ A.is ≠ B.ia := by
  intro i j A B h1 h2 hne
  have hi : i < mem.length := (List.getElem?_eq_some_iff.1 h1).1
  have hj : j < mem.length := (List.getElem?_eq_some_iff.1 h2).1
  have := List.all_eq_true.1 (List.all_eq_true.1 hmd i (List.mem_range.2 hi)) j (List.mem_range.2 hj)
  rw [h1, h2] at this
  have hij : (i == j) = false := by simpa using hne
  rw [hij, Bool.false_or] at this
  simp only [Bool.and_eq_true, bne_iff_ne, ne_eq] at this
  exact ⟨this.1.1.1, this.1.1.2, this.1.2, this.2⟩
 have hadst : ∀ {M : zca}, M ∈ mem → ∃ r, rows[M.ia]? = some r ∧ r.dst = some M.d ∧ r.guard = none ∧ r.op = .alloc M.T := by
  intro M hM
  have h := (hmem M hM).adst
  cases hr : rows[M.ia]? with
  | none => rw [hr] at h; cases h
  | some r =>
    rw [hr] at h
    simp only [Option.map_some, Option.some.injEq, Prod.mk.injEq] at h
    exact ⟨r, rfl, h.2.1, h.2.2, h.1⟩
 have hsdst : ∀ {M : zca}, M ∈ mem → ∃ r, rows[M.js]? = some r ∧ r.dst = some M.src := by
  intro M hM
  have h := (hmem M hM).sdst
  cases hr : rows[M.js]? with
  | none => rw [hr] at h; cases h
  | some r => rw [hr] at h; simp only [Option.map_some, Option.some.injEq] at h; exact ⟨r, rfl, h⟩
 have hstore : ∀ {M : zca}, M ∈ mem → ∃ r, rows[M.is]? = some r ∧ r.op = .store M.T (.tmp M.d) (.tmp M.src) ∧ r.dst = none ∧ r.guard = none := by
  intro M hM
  have h := (hmem M hM).store
  cases hr : rows[M.is]? with
  | none => rw [hr] at h; cases h
  | some r =>
    rw [hr] at h
    simp only [Option.map_some, Option.some.injEq, Prod.mk.injEq] at h
    exact ⟨r, rfl, h.1, h.2.1, h.2.2⟩
 have hstart : zny rows base N w mem 0 a w.drew := ⟨⟨hsz, hdf, Lat.drew w, hb, fun j r d h => by rw [Nat.zero_testBit] at h; cases h⟩, fun M _ h => (by rw [Nat.zero_testBit] at h; cases h), fun k M _ h => (by rw [Nat.zero_testBit] at h; cases h)⟩
 refine zbf (I := zny rows base N w mem) (n := n) (tbl := tbl) (hm := hm) (hn := hn) (ht := ht) (hd := hd) (h0 := hstart) ?_ ?_
 ·intro i hi o m a w1 ho hmi hdeps hMI
  have hI := hMI.s
  obtain ⟨r, hr, hkey⟩ := hrow ho
  have hkey0 := hkey
  unfold SRow.key zbQ at hkey
  simp only [Prod.mk.injEq] at hkey
  obtain ⟨ke1, ke2, ke3, ke4⟩ := hkey
  have hdeps' : ∀ j ∈ r.deps, m.testBit j = true := by
   intro j hj
   refine hdeps j ?_
   unfold zaQ
   rw [List.getElem?_map, Array.getElem?_toList, ho]
   simp only [Option.map_some, Option.getD_some]
   rw [ke4]
   exact hj
  have hbit : ∀ j, (m ||| 2 ^ i).testBit j = true → j ≠ i → m.testBit j = true := by
   intro j hj hne
   rw [Nat.testBit_or, Nat.testBit_two_pow] at hj
   have : ¬ i = j := fun e => hne e.symm
   simpa [this] using hj
  have hup : ∀ j, m.testBit j = true → (m ||| 2 ^ i).testBit j = true := by
   intro j hj
   rw [Nat.testBit_or, hj]; rfl
  have hdn : ∀ {j}, (m ||| 2 ^ i).testBit j = false → m.testBit j = false := by
   intro j hj
   cases hb : m.testBit j with
   | false => rfl
   | true => rw [hup _ hb] at hj; cases hj
  have hself : (m ||| 2 ^ i).testBit i = true := by rw [Nat.testBit_or, Nat.testBit_two_pow]; simp
  -- the slots behind a put
  have hslots : ∀ v w', Lat w w' → zeW w1 w' → (∀ d, r.dst = some d → r.V v w') → zeV rows base N w (m ||| 2 ^ i) (a.put o.dst v) w' := by
   intro v w' hl hkp hv
   have hmono : ∀ j rj d, (m ||| 2 ^ i).testBit j = true → j ≠ i → rows[j]? = some rj → rj.dst = some d → ∃ v, Slot a d v ∧ rj.V v w' := by
    intro j rj d hj hne h1 h2
    obtain ⟨u, h3, h4⟩ := hI.slot j rj d (hbit j hj hne) h1 h2
    exact ⟨u, h3, hpure rj (List.mem_of_getElem? h1) u _ _ h4 hkp⟩
   cases hdd : r.dst with
   | none =>
     rw [hdd] at ke2
     rw [ke2]
     refine ⟨hI.size, hI.defers, hl, hI.base, fun j rj d hj h1 h2 => ?_⟩
     by_cases hne : j = i
     ·subst hne
      rw [hr] at h1; cases h1
      rw [hdd] at h2; cases h2
     ·exact hmono j rj d hj hne h1 h2
   | some d0 =>
     rw [hdd] at ke2
     rw [ke2]
     obtain ⟨hd0, hd1⟩ := hdst hr hdd
     have hv' := hv d0 hdd
     refine ⟨by simp [Act.put, hI.size], by simp [Act.put, hI.defers], hl, fun k u hk => ?_, fun j rj d hj h1 h2 => ?_⟩
     ·have := hI.base k u hk
      unfold Slot at this ⊢
      simp only [Act.put]
      rw [Array.getElem?_setIfInBounds_ne (fun e => by subst e; rw [hd1] at hk; cases hk)]
      exact this
     ·by_cases hne : j = i
      ·subst hne
       rw [hr] at h1; cases h1
       rw [hdd] at h2; cases h2
       refine ⟨v, ?_, hv'⟩
       unfold Slot
       simp [Act.put, hI.size, hd0]
      ·obtain ⟨u, h3, h4⟩ := hmono j rj d hj hne h1 h2
       refine ⟨u, ?_, h4⟩
       unfold Slot at h3 ⊢
       simp only [Act.put]
       rw [Array.getElem?_setIfInBounds_ne (fun e => by subst e; exact hne (zdE hdis2 h1 hr h2 hdd))]
       exact h3
  -- a slot of another operation stays
  have hstay : ∀ {j : Nat} {rj : SRow} {d : Tmp} {u v : Value}, rows[j]? = some rj → rj.dst = some d → j ≠ i → (Slot (a.put o.dst v) d u ↔ Slot a d u) := by
   intro j rj d u v h1 h2 hne
   unfold Slot
   cases hdd : r.dst with
   | none => rw [hdd] at ke2; rw [ke2]; exact Iff.rfl
   | some d0 =>
     rw [hdd] at ke2
     rw [ke2]
     simp only [Act.put]
     rw [Array.getElem?_setIfInBounds_ne (fun e => by subst e; exact hne (zdE hdis2 h1 hr h2 hdd))]
  have hwant : o.guard = none → Region.wanted o (yielded ops a.tmps) = true := fun h => by unfold Region.wanted; rw [h]
  by_cases hA : ∃ (k0 : Nat) (M0 : zca), mem[k0]? = some M0 ∧ i = M0.ia
  ·-- a new variable
   obtain ⟨k0, M0, hM0, rfl⟩ := hA
   have hM0m := List.mem_of_getElem? hM0
   obtain ⟨r', hr', hrd, hrg, hrop⟩ := hadst hM0m
   rw [hr] at hr'; cases hr'
   have hal := (hmem M0 hM0m).alloc a.eval w1 o (by rw [ke1, hrop])
   have la := Lat.alloc w1 (.cells M0.zs M0.T)
   unfold wpOp
   rw [ho]
   simp only [if_pos (hwant (by rw [ke3, hrg]))]
   refine Or.inl ?_
   unfold Oper.wp
   rw [hal, Oper.upon_value]
   have hS := hslots (.pointer (some ⟨w1.heap.size, 0, none⟩)) (w1.alloc (.cells M0.zs M0.T)) (hI.lat.trans la) (.inl la) (fun d hdd => (hmem M0 hM0m).any r _ _ hr)
   have hd0N := (hdst hr hrd).1
   have hslot0 : Slot (a.put o.dst (.pointer (some ⟨w1.heap.size, 0, none⟩))) M0.d (.pointer (some ⟨w1.heap.size, 0, none⟩)) := by
    rw [ke2, hrd]
    unfold Slot
    simp [Act.put, hI.size, hd0N]
   refine ⟨hS, fun M hM hbs => ?_, fun k M hMk hba => ?_⟩
   ·have hne : M.is ≠ M0.ia := by
     obtain ⟨k, hk'⟩ := List.getElem?_of_mem hM
     by_cases e : k = k0
     ·subst e; rw [hM0] at hk'; cases hk'
      intro e2
      obtain ⟨rs, hrs, _, hds, _⟩ := hstore hM
      rw [e2, hr] at hrs; cases hrs
      rw [hrd] at hds; cases hds
     ·exact (hmdif hk' hM0 e).2.2.2
    have := hMI.shut M hM (hbit _ hbs hne)
    exact ⟨hup _ this.1, hup _ this.2⟩
   ·by_cases e : k = k0
    ·subst e
     rw [hM0] at hMk; cases hMk
     refine ⟨w1.heap.size, M0.zs, hslot0, hI.lat.size, Blk.new _ _ _, rfl, fun _ => rfl, fun hbs => ?_, fun k' M' g' hne hM' hb' hs' => ?_⟩
     ·exfalso
      have hne : M0.is ≠ M0.ia := by
       intro e2
       obtain ⟨rs, hrs, _, hds, _⟩ := hstore hM0m
       rw [e2, hr] at hrs; cases hrs
       rw [hrd] at hds; cases hds
      have := (hMI.shut M0 hM0m (hbit _ hbs hne)).1
      rw [hmi] at this; cases this
     ·have hne2 := (hmdif hM' hM0 hne).1
      obtain ⟨ra, hra, hrad, _, _⟩ := hadst (List.mem_of_getElem? hM')
      obtain ⟨g2, cur, hat⟩ := hMI.at_ k' M' hM' (hbit _ hb' hne2)
      have := zeo ((hstay hra hrad hne2).1 hs') hat.slot
      have hgg := zij this
      have := hat.blk.lt
      omega
    ·have hne2 := (hmdif hMk hM0 e).1
     obtain ⟨ra, hra, hrad, _, _⟩ := hadst (List.mem_of_getElem? hMk)
     obtain ⟨rj, hrj, hrjd⟩ := hsdst (List.mem_of_getElem? hMk)
     obtain ⟨g2, cur, hat⟩ := hMI.at_ k M hMk (hbit _ hba hne2)
     refine ⟨g2, cur, (hstay hra hrad hne2).2 hat.slot, hat.new, hat.blk.alloc _, hat.sz, fun hbs => hat.first (hdn hbs), fun hbs => ?_, fun k' M' g' hne hM' hb' hs' => ?_⟩
     ·have hnes := (hmdif hMk hM0 e).2.2.2
      have hbs' := hbit _ hbs hnes
      have hjs := (hMI.shut M (List.mem_of_getElem? hMk) hbs').2
      have hnej : M.js ≠ M0.ia := by intro e2; rw [e2, hmi] at hjs; cases hjs
      exact (hstay hrj hrjd hnej).2 (hat.put hbs')
     ·by_cases e' : k' = k0
      ·subst e'
       rw [hM0] at hM'; cases hM'
       have hgg := zij (zeo hs' hslot0)
       have := hat.blk.lt
       omega
      ·have hne3 := (hmdif hM' hM0 e').1
       obtain ⟨ra', hra', hrad', _, _⟩ := hadst (List.mem_of_getElem? hM')
       exact hat.far k' M' g' hne hM' (hbit _ hb' hne3) ((hstay hra' hrad' hne3).1 hs')
  by_cases hSt : ∃ (k0 : Nat) (M0 : zca), mem[k0]? = some M0 ∧ i = M0.is
  ·-- a store into a new variable
   obtain ⟨k0, M0, hM0, rfl⟩ := hSt
   have hM0m := List.mem_of_getElem? hM0
   obtain ⟨r', hr', hrop, hrd, hrg⟩ := hstore hM0m
   rw [hr] at hr'; cases hr'
   obtain ⟨hda, hdj⟩ := (hmem M0 hM0m).deps r hr
   have hba0 := hdeps' _ hda
   have hbj0 := hdeps' _ hdj
   obtain ⟨g, cur, hat⟩ := hMI.at_ k0 M0 hM0 hba0
   obtain ⟨rj, hrj, hrjd⟩ := hsdst hM0m
   obtain ⟨v, hv1, hv2⟩ := hI.slot M0.js rj M0.src hbj0 hrj hrjd
   obtain ⟨c, rfl, hcs, hc1⟩ := (hmem M0 hM0m).src rj v w1 hrj hv2
   have hod : o.dst = none := by rw [ke2, hrd]
   have hput : ∀ u, a.put o.dst u = a := fun u => by rw [hod]; rfl
   unfold wpOp
   rw [ho]
   simp only [if_pos (hwant (by rw [ke3, hrg]))]
   refine Or.inl ?_
   have ht' : w1.there g 0 c.size := fun j hj => by
    rw [Nat.zero_add]
    exact ⟨by rw [hat.blk.cell j, Array.getElem?_eq_getElem (by rw [hat.sz, ← hcs]; exact hj)]; rfl, hat.blk.frozen j⟩
   refine wp_store_mid M0.T (.tmp M0.d) (.tmp M0.src) (by rw [ke1, hrop]) g 0 c hat.slot.ev hv1.ev ht' (by rw [hcs]; exact (hmem M0 hM0m).info) hc1 ?_
   rw [hput]
   have hL : Lat w (w1.setCells g 0 c.toList) := Lat.setCells hat.new _ _ _ hI.lat
   have hcz := hat.first hmi
   have hK : zeW w1 (w1.setCells g 0 c.toList) := .inr ⟨g, _, cur, hat.blk, by rw [hcz]; exact (hmem M0 hM0m).raw, LatP.setCells _ _ _⟩
   have hS := hslots undef (w1.setCells g 0 c.toList) hL hK (fun d hdd => by rw [hrd] at hdd; cases hdd)
   rw [hput] at hS
   have hbk := hat.blk.setCells c (by rw [hat.sz, hcs])
   refine ⟨hS, fun M hM hbs => ?_, fun k M hMk hba => ?_⟩
   ·obtain ⟨k, hk'⟩ := List.getElem?_of_mem hM
    by_cases e : k = k0
    ·subst e; rw [hM0] at hk'; cases hk'
     exact ⟨hup _ hba0, hup _ hbj0⟩
    ·have := hMI.shut M hM (hbit _ hbs (hmdif hk' hM0 e).2.1)
     exact ⟨hup _ this.1, hup _ this.2⟩
   ·by_cases e : k = k0
    ·subst e
     rw [hM0] at hMk; cases hMk
     refine ⟨g, c, hat.slot, hat.new, hbk, hcs, fun hbs => (by rw [hself] at hbs; cases hbs), fun _ => hv1, fun k' M' g' hne hM' hb' hs' => ?_⟩
     exact hat.far k' M' g' hne hM' (hbit _ hb' (hmdif hM' hM0 hne).2.2.1) hs'
    ·have hne2 := (hmdif hMk hM0 e).2.2.1
     obtain ⟨g2, cur2, hat2⟩ := hMI.at_ k M hMk (hbit _ hba hne2)
     have hgg : g2 ≠ g := hat2.far k0 M0 g (fun e2 => e e2.symm) hM0 hba0 hat.slot
     refine ⟨g2, cur2, hat2.slot, hat2.new, ?_, hat2.sz, fun hbs => hat2.first (hdn hbs), fun hbs => hat2.put (hbit _ hbs (hmdif hMk hM0 e).2.1), fun k' M' g' hne hM' hb' hs' => ?_⟩
     ·exact (zaC hgg _ _ _).trans hat2.blk
     ·by_cases e' : k' = k0
      ·subst e'
       rw [hM0] at hM'; cases hM'
       exact hat2.far k' M0 g' hne hM0 hba0 hs'
      ·exact hat2.far k' M' g' hne hM' (hbit _ hb' (hmdif hM' hM0 e').2.2.1) hs'
  ·-- any other operation
   have hne : ∀ M ∈ mem, i ≠ M.ia ∧ i ≠ M.is := fun M hM => by
    obtain ⟨k, hk'⟩ := List.getElem?_of_mem hM
    exact ⟨fun e => hA ⟨k, M, hk', e⟩, fun e => hSt ⟨k, M, hk', e⟩⟩
   obtain ⟨S1, S2, S3⟩ := hstep i r hr hne
   have hw : Region.wanted o (yielded ops a.tmps) = true := by
    unfold Region.wanted
    cases hg : o.guard with
    | none => rfl
    | some p =>
      obtain ⟨j, b⟩ := p
      obtain ⟨rj, h1, ⟨d, h2⟩, h3, h4⟩ := S2 j b (by rw [← ke3, hg])
      obtain ⟨v, h5, h6⟩ := hI.slot j rj d (hdeps' j h3) h1 h2
      have h7 := h4 v w1 h6
      subst h7
      have hjn : j < n := by rw [← hlen]; exact (List.getElem?_eq_some_iff.1 h1).1
      have hj : j < ops.size := by omega
      obtain ⟨rj', h8, h9⟩ := hrow (Array.getElem?_eq_getElem hj)
      rw [h1] at h8
      cases h8
      unfold SRow.key zbQ at h9
      simp only [Prod.mk.injEq] at h9
      unfold yielded
      unfold Slot at h5
      have hd0 : ops[j].dst = some d := by rw [h9.2.1, h2]
      simp only [Array.getElem?_eq_getElem hj, Option.bind_some, hd0, h5]
      cases b <;> rfl
   have hput : ∀ v w', Lat w1 w' → (r.dst.isSome = true → r.V v w') → zny rows base N w mem (m ||| 2 ^ i) (a.put o.dst v) w' := by
    intro v w' hl hv
    refine ⟨hslots v w' (hI.lat.trans hl) (.inl hl) (fun d hdd => hv (by rw [hdd]; rfl)), fun M hM hbs => ?_, fun k M hMk hba => ?_⟩
    ·have := hMI.shut M hM (hbit _ hbs (fun e => (hne M hM).2 e.symm))
     exact ⟨hup _ this.1, hup _ this.2⟩
    ·have hM := List.mem_of_getElem? hMk
     have hnea : M.ia ≠ i := fun e => (hne M hM).1 e.symm
     have hnes : M.is ≠ i := fun e => (hne M hM).2 e.symm
     obtain ⟨ra, hra, hrad, _, _⟩ := hadst hM
     obtain ⟨rj, hrj, hrjd⟩ := hsdst hM
     obtain ⟨g2, cur, hat⟩ := hMI.at_ k M hMk (hbit _ hba hnea)
     refine ⟨g2, cur, (hstay hra hrad hnea).2 hat.slot, hat.new, hat.blk.later hl, hat.sz, fun hbs => hat.first (hdn hbs), fun hbs => ?_, fun k' M' g' hne' hM' hb' hs' => ?_⟩
     ·have hbs' := hbit _ hbs hnes
      have hjs := (hMI.shut M hM hbs').2
      have hnej : M.js ≠ i := by intro e2; rw [e2, hmi] at hjs; cases hjs
      exact (hstay hrj hrjd hnej).2 (hat.put hbs')
     ·have hM'm := List.mem_of_getElem? hM'
      have hnea' : M'.ia ≠ i := fun e => (hne M' hM'm).1 e.symm
      obtain ⟨ra', hra', hrad', _, _⟩ := hadst hM'm
      exact hat.far k' M' g' hne' hM' (hbit _ hb' hnea') ((hstay hra' hrad' hnea').1 hs')
   have hruns := S3 a w1 hI.lat (fun k v hk => (hI.base k v hk).ev) (fun j rj d hj h1 h2 => by
    obtain ⟨v, h3, h4⟩ := hI.slot j rj d (hdeps' j hj) h1 h2
    exact ⟨v, h3.ev, h4⟩) o ke1
   unfold wpOp
   rw [ho]
   simp only [if_pos hw]
   refine Or.inl ?_
   unfold Oper.wp
   rcases hruns with ⟨v, w', h1, h2, h3⟩ | ⟨f, args, h1, h2⟩
   ·rw [h1, Oper.upon_value]
    exact hput v w' h2 h3
   ·rw [h1, Oper.upon_enter]
    refine h2.mono fun e w' h => ?_
    obtain ⟨v, rfl, h3, h4⟩ := h
    exact hput v w' h3 h4
 ·intro m a W hall hMI
  have hI := hMI.s
  have hin : ∀ j r, rows[j]? = some r → m.testBit j = true := fun j r h => hall j (by rw [← hlen]; exact (List.getElem?_eq_some_iff.1 h).1)
  refine hend a W hI.size hI.defers hI.lat hI.base (fun j r d h1 h2 => hI.slot j r d (hin j r h1) h1 h2) (fun k M hMk => ?_)
  have hM := List.mem_of_getElem? hMk
  obtain ⟨ra, hra, _, _, _⟩ := hadst hM
  obtain ⟨rs, hrs, _, _, _⟩ := hstore hM
  obtain ⟨g, cur, hat⟩ := hMI.at_ k M hMk (hin _ _ hra)
  refine ⟨g, cur, hat.slot, hat.new, hat.blk, hat.put (hin _ _ hrs), fun k' M' g' hne hM' hs' => ?_⟩
  obtain ⟨ra', hra', _, _, _⟩ := hadst (List.mem_of_getElem? hM')
  exact hat.far k' M' g' hne hM' (hin _ _ hra') hs'
theorem zda {a : Act} {d : Tmp} {cur c : Array Value} (h : Slot a d (.agg cur)) (h' : Slot a d (.agg c)) : cur = c := by
 have := zeo h h'
 cases this; rfl
theorem zkG {cs : Array Value} (h : cs.all zbJ = true) : ∀ (j : Nat) (x : Int), cs[j]? ≠ some (.int .u64 x) := by
 intro j x hj
 obtain ⟨h1, h2⟩ := Array.getElem?_eq_some_iff.1 hj
 have := (Array.all_eq_true.1 h) j h1
 rw [h2] at this
 cases this
theorem zkH {cs : Array Value} (h : cs.all zbJ = true) : ∀ (j : Nat) (x : Int), cs[j]? ≠ some (.int .i64 x) := by
 intro j x hj
 obtain ⟨h1, h2⟩ := Array.getElem?_eq_some_iff.1 hj
 have := (Array.all_eq_true.1 h) j h1
 rw [h2] at this
 cases this
end Go.Proofs.YtpmbglhbcjbkcaaGreat
