/- Several texts in one: RdNm, InvLB. -/
import Derived.Test.YtpmbglhbcjbkcaaGreatH43
import Derived.Test.YtpmbglhbcjbkcaaGreatH47
namespace Go.Proofs.YtpmbglhbcjbkcaaGreat
set_option maxHeartbeats 16000000
set_option maxRecDepth 100000
set_option linter.unusedSimpArgs false
set_option linter.unusedVariables false
def zmx : Nat → Nat → Nat → Option (Nat × Nat)
 | 0, _, _ => none
 | f + 1, p, n => if n < p * p then some (zh9 n) else (zmx f (p + 1) (zc3 p n)).map fun r => (p ^ (zfO p n / 2) * r.1, p ^ (zfO p n % 2) * r.2)
theorem ziK : ∀ (f p n F : Nat) (r : Nat × Nat), zmx f p n = some r → NoDiv p n → 2 ≤ p → 0 < n → f ≤ F + 1 → zaN F p n = r
 | 0, _, _, _, _, h, _, _, _, _ => by cases h
 | f + 1, p, n, F, r, h, hn, hp, h0, hF => by
   unfold zmx at h
   split at h
   ·rename_i hlt
    rw [zcN F p n hp h0 hlt hn]
    exact Option.some.inj h
   ·rename_i hlt
    obtain ⟨r1, h1, h2⟩ := Option.map_eq_some_iff.1 h
    cases f with
    | zero => cases h1
    | succ f =>
      obtain ⟨F2, rfl⟩ : ∃ F2, F = F2 + 1 := ⟨F - 1, by omega⟩
      obtain ⟨e1, e2, e3⟩ := zee hp h0
      have hd : zc3 p n ∣ n := ⟨p ^ zfO p n, by rw [Nat.mul_comm]; exact e1⟩
      have := ziK (f + 1) (p + 1) (zc3 p n) F2 r1 h1 (hn.step hd e2) (by omega) e3 (by omega)
      simp only [zaN, this]
      exact h2
theorem zhM {n : Nat} {r : Nat × Nat} (f : Nat) (h : zmx f 2 n = some r) (h0 : 0 < n) (hf : f ≤ 20000) : zbR n = r.1 ∧ zbs n = r.2 := by
 have := ziK f 2 n zfd r h (NoDiv.two n) (by omega) h0 (by rw [zef]; omega)
 exact ⟨by unfold zbR; rw [this], by unfold zbs; rw [this]⟩
theorem qn1 : zbR 1 = 1 ∧ zbs 1 = 1 := zhM (r := (1, 1)) 5 (by decide +kernel) (by decide) (by decide)
theorem qn2 : zbR 2 = 1 ∧ zbs 2 = 2 := zhM (r := (1, 2)) 5 (by decide +kernel) (by decide) (by decide)
theorem qn3 : zbR 3 = 1 ∧ zbs 3 = 3 := zhM (r := (1, 3)) 5 (by decide +kernel) (by decide) (by decide)
theorem qn4 : zbR 4 = 2 ∧ zbs 4 = 1 := zhM (r := (2, 1)) 5 (by decide +kernel) (by decide) (by decide)
theorem qn8 : zbR 8 = 2 ∧ zbs 8 = 2 := zhM (r := (2, 2)) 5 (by decide +kernel) (by decide) (by decide)
theorem qn12 : zbR 12 = 2 ∧ zbs 12 = 3 := zhM (r := (2, 3)) 6 (by decide +kernel) (by decide) (by decide)
theorem qn25 : zbR 25 = 5 ∧ zbs 25 = 1 := zhM (r := (5, 1)) 9 (by decide +kernel) (by decide) (by decide)
theorem mk1 : zal [(1, 8), (3, 2), (1, 0), (-1, 4)] = 0 ∧ zaJ [(1, 8), (3, 2), (1, 0), (-1, 4)] = [(-2, 1), (5, 2)] := by
 obtain ⟨a1, a2⟩ := qn8
 obtain ⟨b1, b2⟩ := qn2
 obtain ⟨c1, c2⟩ := qn4
 have hs : zbY [(1, 8), (3, 2), (1, 0), (-1, 4)] = [(1, -2), (2, 5)] := by
  simp [zbY, zfP, zdG, a1, a2, b1, b2, c1, c2]
 have hl : zaJ [(1, 8), (3, 2), (1, 0), (-1, 4)] = [(-2, 1), (5, 2)] := by
  unfold zaJ; rw [hs]; decide
 refine ⟨?_, hl⟩
 unfold zal
 rw [hl, hs, if_neg (by decide), if_pos (by decide), if_pos (by decide), if_neg (by decide)]
theorem mk2 : zal [(1, 12), (-2, 3)] = 0 ∧ zaJ [(1, 12), (-2, 3)] = [] := by
 obtain ⟨a1, a2⟩ := qn12
 obtain ⟨b1, b2⟩ := qn3
 have hs : zbY [(1, 12), (-2, 3)] = [(3, 0)] := by
  simp [zbY, zfP, zdG, a1, a2, b1, b2]
 have hl : zaJ [(1, 12), (-2, 3)] = [] := by unfold zaJ; rw [hs]; decide
 refine ⟨?_, hl⟩
 unfold zal
 rw [hl, hs, if_neg (by decide), if_pos (by decide), if_pos (by decide), if_neg (by decide)]
theorem mk3 : zal [(1, 2), (-1, 2)] = 0 ∧ zaJ [(1, 2), (-1, 2)] = [] := by
 obtain ⟨b1, b2⟩ := qn2
 have hs : zbY [(1, 2), (-1, 2)] = [(2, 0)] := by
  simp [zbY, zfP, zdG, b1, b2]
 have hl : zaJ [(1, 2), (-1, 2)] = [] := by unfold zaJ; rw [hs]; decide
 refine ⟨?_, hl⟩
 unfold zal
 rw [hl, hs, if_neg (by decide), if_pos (by decide), if_pos (by decide), if_neg (by decide)]
theorem mk4 : zal [(1, 25)] = 0 ∧ zaJ [(1, 25)] = [(5, 1)] := by
 obtain ⟨b1, b2⟩ := qn25
 have hs : zbY [(1, 25)] = [(1, 5)] := by simp [zbY, zfP, zdG, b1, b2]
 have hl : zaJ [(1, 25)] = [(5, 1)] := by unfold zaJ; rw [hs]; decide
 refine ⟨?_, hl⟩
 unfold zal
 rw [hl, hs, if_neg (by decide), if_pos (by decide), if_pos (by decide), if_neg (by decide)]
theorem mk5 : zal [(1, 2)] = 0 ∧ zaJ [(1, 2)] = [(1, 2)] := by
 obtain ⟨b1, b2⟩ := qn2
 have hs : zbY [(1, 2)] = [(2, 1)] := by simp [zbY, zfP, zdG, b1, b2]
 have hl : zaJ [(1, 2)] = [(1, 2)] := by unfold zaJ; rw [hs]; decide
 refine ⟨?_, hl⟩
 unfold zal
 rw [hl, hs, if_neg (by decide), if_pos (by decide), if_pos (by decide), if_neg (by decide)]
theorem zdh {t : Int} {u : Nat} (h : zbR u = 1 ∧ zbs u = u) (h0 : 0 < u) (h1 : u ≤ 1000) (ht : t ≠ 0) (hr : zbo t) : ValidR [(t, (u : Int))] := by
 refine ⟨by simp, List.pairwise_singleton _ _, fun x hx => ?_⟩
 rw [List.mem_singleton] at hx
 subst hx
 exact ⟨by simp; omega, by simp; omega, ht, hr, by simp [h.1]⟩
theorem v2 : ValidR [(1, 2)] := zdh (u := 2) qn2 (by decide) (by decide) (by decide) (by decide)
theorem v2m : ValidR [(-1, 2)] := zdh (u := 2) qn2 (by decide) (by decide) (by decide) (by decide)
theorem v31 : ValidR [(3, 1)] := zdh (u := 1) qn1 (by decide) (by decide) (by decide) (by decide)
theorem v21 : ValidR [(-2, 1)] := zdh (u := 1) qn1 (by decide) (by decide) (by decide) (by decide)
theorem v3s : ValidR [(-3, 1), (1, 2), (1, 3)] := by
 refine ⟨by decide, by unfold zlX; simp, fun x hx => ?_⟩
 simp only [List.mem_cons, List.not_mem_nil, or_false] at hx
 rcases hx with rfl | rfl | rfl
 ·exact ⟨by decide, by decide, by decide, by decide, by simp [qn1.1]⟩
 ·exact ⟨by decide, by decide, by decide, by decide, by simp [qn2.1]⟩
 ·exact ⟨by decide, by decide, by decide, by decide, by simp [qn3.1]⟩
theorem nv4 : ¬ ValidR [(1, 4)] := fun h => by
 have := (h.term (1, 4) (by simp)).2.2.2.2
 simp [qn4.1] at this
theorem nv32 : ¬ ValidR [(1, 3), (1, 2)] := fun h => by
 have := h.asc
 simp [zlX] at this
theorem zdA {z r : Int} (h0 : 0 ≤ r) (h1 : r * r ≤ z) (h2 : z < (r + 1) * (r + 1)) : rtZ z = r := zh7 h0 h1 h2
theorem k_d1 : eDn (1, 2) 2 = 5 := zdA (by decide) (by decide) (by decide)
theorem k_d2 : eDn (-1, 2) 2 = 5 := zdA (by decide) (by decide) (by decide)
theorem k_d3 : eDn (3, 1) 0 = 3 := zdA (by decide) (by decide) (by decide)
theorem k_s1 : sLo [(1, 2)] 2 = 5 ∧ sHi [(1, 2)] 2 = 6 := by
 simp [sLo, sHi, eLo, eHi, eUp, k_d1, eSq]
theorem k_s2 : sLo [(-1, 2)] 2 = -6 ∧ sHi [(-1, 2)] 2 = -5 := by
 simp [sLo, sHi, eLo, eHi, eUp, k_d2, eSq]
theorem k_s3 : sLo [(3, 1)] 0 = 3 ∧ sHi [(3, 1)] 0 = 3 := by
 simp [sLo, sHi, eLo, eHi, eUp, k_d3, eSq]
theorem k_g1 : eDn (-3, 1) 32 = 12884901888 := zdA (by decide) (by decide) (by decide)
theorem k_g2 : eDn (1, 2) 32 = 6074000999 := zdA (by decide) (by decide) (by decide)
theorem k_g3 : eDn (1, 3) 32 = 7439101573 := zdA (by decide) (by decide) (by decide)
theorem k_s4 : sLo [(-3, 1), (1, 2), (1, 3)] 32 = 628200684 := by
 simp [sLo, eLo, eUp, k_g1, k_g2, k_g3, eSq]
theorem k_s5 : sLo [(1, 2)] 32 = 6074000999 := by
 simp [sLo, eLo, k_g2]
theorem sh01 : zhk 0 1 := ⟨by decide, by decide⟩
theorem sh75 : zhk 7 5 := ⟨by decide, by decide⟩
theorem shm2 : zhk (-2) 1 := ⟨by decide, by decide⟩
theorem k_c1 : sgnA [(-3, 1), (1, 2), (1, 3)] = (1, 0) := by
 unfold sgnA
 rw [zdg v3s sh01 (by decide) (by intro t h; cases h)]
 unfold za1 zcx
 rw [k_s4]
 exact if_pos (by decide +kernel)
theorem k_c2 : zey [(1, 2)] 7 5 = (1, 0) := by
 rw [zdg v2 sh75 (by decide) (by intro t h; cases h)]
 unfold za1 zcx
 rw [k_s5]
 exact if_pos (by decide +kernel)
theorem k_c3 : zey [(-2, 1)] (-2) 1 = (0, 0) := by
 rw [ziH v21 shm2]
 decide
open Go.RowKit
theorem zdB {P : Program} {ops : Array Oper} {Q : Exit → Act → World → Prop} {id : Nat} {b : Bool} {a : Act} {w : World} (rows : List SRow) (base : List (Nat × Value)) (N n : Nat) (tbl : List (List Nat))
  (hm : P.follows .mixedOrders = true) (o9 : Oper) (ho9 : ops[n]? = some o9) (hg9 : o9.guard = none) (hn : ops.size = n + 1) (ht : zaQ ops = tbl) (hd : ((List.range (n + 1)).all fun i => ((tbl[i]?).getD []).all fun j => decide (j < i)) = true)
  (hup : ((List.range n).all fun i => (List.range (n + 1)).any fun k => decide (i < k) && ((tbl[k]?).getD []).contains i) = true) (hk : (ops.toList.take n).map zbQ = rows.map SRow.key)
  (hdis : distinct rows base N = true) (hsz : a.tmps.size = N) (hdf : a.defers = []) (hb : ∀ k v, base.lookup k = some v → Slot a k v) (hstep : AllSteps P rows base w rows)
  (hend : ∀ a W, a.tmps.size = N → a.defers = [] → Lat w W → (∀ k v, base.lookup k = some v → Slot a k v) → (∀ (j : Nat) r d, rows[j]? = some r → r.dst = some d → ∃ v, Slot a d v ∧ r.V v W) → o9.wp P a W (fun a' w' => Q .normal a' w') Q) : (Code.region id ops b).wp P Q a w := by
 have hrow : ∀ {i : Nat} {o : Oper}, i < n → ops[i]? = some o → ∃ r, rows[i]? = some r ∧ zbQ o = r.key := by
  intro i o hi ho
  have h1 : ((ops.toList.take n).map zbQ)[i]? = some (zbQ o) := by simp [ho, List.getElem?_take, hi]
  rw [hk, List.getElem?_map] at h1
  cases hr : rows[i]? with
  | none => rw [hr] at h1; cases h1
  | some r => rw [hr] at h1; simp only [Option.map_some, Option.some.injEq] at h1; exact ⟨r, rfl, h1.symm⟩
 simp only [distinct, Bool.and_eq_true] at hdis
 obtain ⟨hdis1, hdis2⟩ := hdis
 have hdst : ∀ {i : Nat} {r : SRow} {d : Tmp}, rows[i]? = some r → r.dst = some d → d < N ∧ base.lookup d = none := by
  intro i r d h1 h2
  have := List.all_eq_true.1 hdis1 d (List.mem_filterMap.2 ⟨r, List.mem_of_getElem? h1, h2⟩)
  simpa using this
 have hlen : rows.length = n := by
  have := congrArg List.length hk
  simp at this
  omega
 have hreach : ∀ m : Nat, (∀ i, m.testBit i = true → ∀ j ∈ (tbl[i]?).getD [], m.testBit j = true) → (∀ j ∈ (tbl[n]?).getD [], m.testBit j = true) → ∀ i, i < n → m.testBit i = true := by
  intro m hcl hde
  have : ∀ d i, i < n → n - i = d → m.testBit i = true := by
   intro d
   induction d using Nat.strongRecOn with
   | ind d ih =>
     intro i hi hd0
     have h1 := List.all_eq_true.1 hup i (List.mem_range.2 hi)
     obtain ⟨k, hk1, hk2⟩ := List.any_eq_true.1 h1
     have hk3 := List.mem_range.1 hk1
     simp only [Bool.and_eq_true, decide_eq_true_eq, List.contains_eq_mem] at hk2
     by_cases hkn : k = n
     ·subst hkn; exact hde i hk2.2
     ·exact hcl k (ih (n - k) (by omega) k (by omega) rfl) i hk2.2
  exact fun i hi => this _ i hi rfl
 have hstart : zeV rows base N w 0 a w.drew := ⟨hsz, hdf, Lat.drew w, hb, fun j r d h => by rw [Nat.zero_testBit] at h; cases h⟩
 let J : Nat → Act → World → Prop := fun m a W => (m.testBit n = false ∧ (∀ i, m.testBit i = true → ∀ j ∈ (tbl[i]?).getD [], m.testBit j = true) ∧ zeV rows base N w m a W) ∨ ((∀ i, i < n + 1 → m.testBit i = true) ∧ Q .normal a W)
 refine zcC (h1 := .inl ⟨by simp, fun i hi => (by rw [Nat.zero_testBit] at hi; cases hi), ⟨hsz, hdf, Lat.refl w, hb, fun j r d h => (by rw [Nat.zero_testBit] at h; cases h)⟩⟩) (I := J) (n := n + 1) (tbl := tbl) (hm := hm) (hn := hn) (ht := ht) (hd := hd) (h0 := .inl ⟨by simp, fun i hi => (by rw [Nat.zero_testBit] at hi; cases hi), hstart⟩) ?_ ?_
 ·intro i hi o m a w1 ho hmi hdeps hJ
  have hdepsT : ∀ j ∈ (tbl[i]?).getD [], m.testBit j = true := by rw [← ht]; exact hdeps
  rcases hJ with ⟨hbn, hcl, hI⟩ | ⟨hall, _⟩
  case inr => rw [hall i hi] at hmi; cases hmi
  by_cases hin : i = n
  ·subst hin
   have hall := hreach m hcl hdepsT
   have hl := hend a w1 hI.size hI.defers hI.lat hI.base (fun j r d h1 h2 => hI.slot j r d (hall j (by rw [← hlen]; exact (List.getElem?_eq_some_iff.1 h1).1)) h1 h2)
   obtain rfl : o = o9 := by rw [ho] at ho9; cases ho9; rfl
   unfold wpOp
   rw [ho]
   have hw : Region.wanted o (yielded ops a.tmps) = true := by unfold Region.wanted; rw [hg9]
   simp only [if_pos hw]
   refine Or.inl (Oper.wp_mono (fun a' w' h => Or.inr ⟨fun k hk => ?_, h⟩) hl)
   rw [Nat.testBit_or, Nat.testBit_two_pow]
   by_cases e : i = k
   ·simp [e]
   ·rw [hall k (by omega)]; rfl
  have hi : i < n := by omega
  have hlift : ∀ a' W', zeV rows base N w (m ||| 2 ^ i) a' W' → J (m ||| 2 ^ i) a' W' := by
   intro a' W' h
   refine .inl ⟨?_, fun k hk j hj => ?_, h⟩
   ·rw [Nat.testBit_or, Nat.testBit_two_pow, hbn]
    simp [hin]
   ·rw [Nat.testBit_or, Nat.testBit_two_pow] at hk
    have : m.testBit j = true := by
     by_cases e : i = k
     ·subst e; exact hdepsT j hj
     ·rw [Bool.or_eq_true] at hk
      rcases hk with hk | hk
      ·exact hcl k hk j hj
      ·exact absurd (of_decide_eq_true hk) e
    rw [Nat.testBit_or, this]; rfl
  obtain ⟨r, hr, hkey⟩ := hrow hi ho
  obtain ⟨S1, S2, S3⟩ := hstep.get r (List.mem_of_getElem? hr)
  unfold SRow.key zbQ at hkey
  simp only [Prod.mk.injEq] at hkey
  obtain ⟨ke1, ke2, ke3, ke4⟩ := hkey
  have hdeps' : ∀ j ∈ r.deps, m.testBit j = true := by
   intro j hj
   refine hdeps j ?_
   unfold zaQ
   rw [List.getElem?_map, Array.getElem?_toList, ho]
   simp only [Option.map_some, Option.getD_some]
   rw [ke4]
   exact hj
  have hw : Region.wanted o (yielded ops a.tmps) = true := by
   unfold Region.wanted
   cases hg : o.guard with
   | none => rfl
   | some p =>
     obtain ⟨j, b⟩ := p
     obtain ⟨rj, h1, ⟨d, h2⟩, h3, h4⟩ := S2 j b (by rw [← ke3, hg])
     obtain ⟨v, h5, h6⟩ := hI.slot j rj d (hdeps' j h3) h1 h2
     have h7 := h4 v w1 h6
     subst h7
     have hjn : j < n := by rw [← hlen]; exact (List.getElem?_eq_some_iff.1 h1).1
     have hj : j < ops.size := by omega
     obtain ⟨rj', h8, h9⟩ := hrow hjn (Array.getElem?_eq_getElem hj)
     rw [h1] at h8
     cases h8
     unfold SRow.key zbQ at h9
     simp only [Prod.mk.injEq] at h9
     unfold yielded
     unfold Slot at h5
     have hd0 : ops[j].dst = some d := by rw [h9.2.1, h2]
     simp only [Array.getElem?_eq_getElem hj, Option.bind_some, hd0, h5]
     cases b <;> rfl
  have hput : ∀ v w', Lat w1 w' → (r.dst.isSome = true → r.V v w') → zeV rows base N w (m ||| 2 ^ i) (a.put o.dst v) w' := by
   intro v w' hl hv
   have hmono : ∀ j rj d, (m ||| 2 ^ i).testBit j = true → j ≠ i → rows[j]? = some rj → rj.dst = some d → ∃ v, Slot a d v ∧ rj.V v w' := by
    intro j rj d hj hne h1 h2
    have hj' : m.testBit j = true := by
     rw [Nat.testBit_or, Nat.testBit_two_pow] at hj
     have : ¬ i = j := fun e => hne e.symm
     simpa [this] using hj
    obtain ⟨u, h3, h4⟩ := hI.slot j rj d hj' h1 h2
    obtain ⟨T1, _, _⟩ := hstep.get rj (List.mem_of_getElem? h1)
    exact ⟨u, h3, T1 u _ _ h4 hl⟩
   cases hdd : r.dst with
   | none =>
     rw [hdd] at ke2
     rw [ke2]
     refine ⟨hI.size, hI.defers, hI.lat.trans hl, hI.base, fun j rj d hj h1 h2 => ?_⟩
     by_cases hne : j = i
     ·subst hne
      rw [hr] at h1; cases h1
      rw [hdd] at h2; cases h2
     ·exact hmono j rj d hj hne h1 h2
   | some d0 =>
     rw [hdd] at ke2
     rw [ke2]
     obtain ⟨hd0, hd1⟩ := hdst hr hdd
     have hv' := hv (by rw [hdd]; rfl)
     refine ⟨by simp [Act.put, hI.size], by simp [Act.put, hI.defers], hI.lat.trans hl, fun k u hk => ?_, fun j rj d hj h1 h2 => ?_⟩
     ·have := hI.base k u hk
      unfold Slot at this ⊢
      simp only [Act.put]
      rw [Array.getElem?_setIfInBounds_ne (fun e => by subst e; rw [hd1] at hk; cases hk)]
      exact this
     ·by_cases hne : j = i
      ·subst hne
       rw [hr] at h1; cases h1
       rw [hdd] at h2; cases h2
       refine ⟨v, ?_, hv'⟩
       unfold Slot
       simp [Act.put, hI.size, hd0]
      ·obtain ⟨u, h3, h4⟩ := hmono j rj d hj hne h1 h2
       refine ⟨u, ?_, h4⟩
       unfold Slot at h3 ⊢
       simp only [Act.put]
       rw [Array.getElem?_setIfInBounds_ne (fun e => by subst e; exact hne (zdE hdis2 h1 hr h2 hdd))]
       exact h3
  have hruns := S3 a w1 hI.lat (fun k v hk => (hI.base k v hk).ev) (fun j rj d hj h1 h2 => by
   obtain ⟨v, h3, h4⟩ := hI.slot j rj d (hdeps' j hj) h1 h2
   exact ⟨v, h3.ev, h4⟩) o ke1
  unfold wpOp
  rw [ho]
  simp only [if_pos hw]
  refine Or.inl ?_
  unfold Oper.wp
  rcases hruns with ⟨v, w', h1, h2, h3⟩ | ⟨f, args, h1, h2⟩
  ·rw [h1, Oper.upon_value]
   exact hlift _ _ (hput v w' h2 h3)
  ·rw [h1, Oper.upon_enter]
   refine h2.mono fun e w' h => ?_
   obtain ⟨v, rfl, h3, h4⟩ := h
   exact hlift _ _ (hput v w' h3 h4)
 ·intro m a W hall hJ
  rcases hJ with ⟨hbn, _, _⟩ | ⟨_, h⟩
  ·rw [hall n (by omega)] at hbn; cases hbn
  ·exact h
end Go.Proofs.YtpmbglhbcjbkcaaGreat
