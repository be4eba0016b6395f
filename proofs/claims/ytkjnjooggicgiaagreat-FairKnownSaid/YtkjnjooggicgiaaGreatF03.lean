/- Several texts in one: FrJ, FrK, FrL, FrQ. -/
import Derived.Test.YtkjnjooggicgiaaGreatE04
import Derived.Test.YtkjnjooggicgiaaGreatE02
import Derived.Test.YtkjnjooggicgiaaGreatJ32
import Derived.DeepKeys
import Derived.ChangeKeysEq
import Derived.Laws.StructEq

/- Fair: the sums of regions. -/
namespace Go.Proofs.YtkjnjooggicgiaaGreat
open Go.RowKit
set_option linter.unusedSimpArgs false

/-- The cells of pairs of numbers. -/
def prs (xs : List (Int × Int)) : List (List Value) := xs.map fun x => [.int .i64 x.1, .int .i64 x.2]
theorem prs_at {xs : List (Int × Int)} {i : Nat} {x : List Value} (h : (prs xs)[i]? = some x) : ∃ a b, xs[i]? = some (a, b) ∧ x = [.int .i64 a, .int .i64 b] := by
  unfold prs at h
  rw [List.getElem?_map] at h
  cases hx : xs[i]? with
  | none => rw [hx] at h; cases h
  | some y => rw [hx] at h; simp at h; exact ⟨y.1, y.2, rfl, h.symm⟩
theorem fst_take {xs : List (Int × Int)} {k : Nat} {a b : Int} (h : xs[k]? = some (a, b)) : ((xs.take (k + 1)).map (·.1)).sum = ((xs.take k).map (·.1)).sum + a := by
  have : (xs.map (·.1))[k]? = some a := by rw [List.getElem?_map, h]; rfl
  have := sum_take this
  rwa [← List.map_take, ← List.map_take] at this
theorem fTot1_any (a b : Int) (w : World) : Calls Tryz.prog 35 #[.agg #[.int .i64 a, .int .i64 b]] w (fun e w' => e = .returned (.int .i64 a) ∧ Lat w w') := by
  go_enter Tryz.func35, Tryz.ntmps35
  go_wp2
  go_ret
  exact ⟨rfl, Lat.alloc _ _⟩
set_option maxHeartbeats 1000000 in
theorem fSum1_any (A : Option Addr) (n c : Nat) (xs : List (Int × Int)) (w : World) (hs : RowM w A 2 n (prs xs)) (hn : n ≤ 1000) (hx : ∀ x ∈ xs.map (·.1), 0 ≤ x ∧ x ≤ 1000000000) :
    Calls Tryz.prog 34 #[.slice A n c, .func (.func 35) #[] #[]] w (fun e w' => e = .returned (.int .i64 (xs.map (·.1)).sum) ∧ Lat w w') := by
  have HB := Lib.hid hx
  clear hx
  go_enter Tryz.func34, Tryz.ntmps34
  go_wp2
  go_loopw [5, 10] (fun t i wr => ∃ k : Nat, k ≤ n ∧ i = .int .i64 k ∧ t = .int .i64 ((xs.take k).map (·.1)).sum ∧ Lat w wr) (fun _ i _ => n - (intOf i).toNat)
  case atStart => exact ⟨0, Nat.zero_le _, rfl, rfl, Lat.refl w⟩
  case round =>
    rename_i wr
    obtain ⟨k, hk, rfl, rfl, hlr⟩ := hrel
    have hb := sum_bound (xs := (xs.take k).map (·.1)) (fun x h => HB.out x (by rw [List.map_take] at h; exact List.mem_of_mem_take h))
    have hll : ((xs.take k).map (·.1)).length ≤ k := by simp; omega
    have hsr := hs.later hlr
    by_cases hlt : k < n
    · obtain ⟨g, o, x, rfl, hg, hxk, hl, hr⟩ := hsr.at hlt
      obtain ⟨a, b, hxa, rfl⟩ := prs_at hxk
      have c0 : wr.cell? ⟨g, o + k * 2, none⟩ = some (.int .i64 a) := hr 0 _ rfl
      have c1 : wr.cell? ⟨g, o + k * 2 + 1, none⟩ = some (.int .i64 b) := hr 1 _ rfl
      have hT := Lib.hid (fst_take hxa)
      have hab := HB.out a (List.mem_map.2 ⟨(a, b), List.mem_of_getElem? hxa, rfl⟩)
      clear hxa hxk hl hr
      obtain ⟨sm, hsm⟩ : ∃ sm, ((xs.take k).map (·.1)).sum = sm := ⟨_, rfl⟩
      rw [hsm] at hb ⊢
      have HS := Lib.hid hsm
      clear hsm
      have b0 := hb.1
      have b1 := hb.2
      have x0 := hab.1
      have x1 := hab.2
      have b2 : sm ≤ 1000000000000 := by omega
      clear hb hab b1
      go_wp2_with fail
      refine name1 (Q := fun W => Calls _ _ _ W _) ?_
      intro W hl hs2 k1
      refine (fTot1_any a b W).mono ?_
      rintro e w2 ⟨rfl, l2⟩
      have L2 := (hlr.trans hl).trans l2
      go_wp2
      go_roundw
      case rel => exact ⟨k + 1, by omega, by go_num, by rw [hT.out, HS.out], L2⟩
      case measure => simp [intOf]; omega
    · obtain rfl : k = n := by omega
      have HT : Hid (xs.take k = xs) := List.take_of_length_le (by have := hs.1; simp [prs] at this; omega)
      clear hb
      go_wp2
      go_ret
      exact ⟨by rw [HT.out]; rfl, hlr⟩
theorem snd_take {xs : List (Int × Int)} {k : Nat} {a b : Int} (h : xs[k]? = some (a, b)) : ((xs.take (k + 1)).map (·.2)).sum = ((xs.take k).map (·.2)).sum + b := by
  have : (xs.map (·.2))[k]? = some b := by rw [List.getElem?_map, h]; rfl
  have := sum_take this
  rwa [← List.map_take, ← List.map_take] at this
theorem fTot2_any (a b : Int) (w : World) : Calls Tryz.prog 36 #[.agg #[.int .i64 a, .int .i64 b]] w (fun e w' => e = .returned (.int .i64 b) ∧ Lat w w') := by
  go_enter Tryz.func36, Tryz.ntmps36
  go_wp2
  go_ret
  exact ⟨rfl, Lat.alloc _ _⟩
set_option maxHeartbeats 1000000 in
theorem fSum2_any (A : Option Addr) (n c : Nat) (xs : List (Int × Int)) (w : World) (hs : RowM w A 2 n (prs xs)) (hn : n ≤ 1000) (hx : ∀ x ∈ xs.map (·.2), 0 ≤ x ∧ x ≤ 1000000000) :
    Calls Tryz.prog 34 #[.slice A n c, .func (.func 36) #[] #[]] w (fun e w' => e = .returned (.int .i64 (xs.map (·.2)).sum) ∧ Lat w w') := by
  have HB := Lib.hid hx
  clear hx
  go_enter Tryz.func34, Tryz.ntmps34
  go_wp2
  go_loopw [5, 10] (fun t i wr => ∃ k : Nat, k ≤ n ∧ i = .int .i64 k ∧ t = .int .i64 ((xs.take k).map (·.2)).sum ∧ Lat w wr) (fun _ i _ => n - (intOf i).toNat)
  case atStart => exact ⟨0, Nat.zero_le _, rfl, rfl, Lat.refl w⟩
  case round =>
    rename_i wr
    obtain ⟨k, hk, rfl, rfl, hlr⟩ := hrel
    have hb := sum_bound (xs := (xs.take k).map (·.2)) (fun x h => HB.out x (by rw [List.map_take] at h; exact List.mem_of_mem_take h))
    have hll : ((xs.take k).map (·.2)).length ≤ k := by simp; omega
    have hsr := hs.later hlr
    by_cases hlt : k < n
    · obtain ⟨g, o, x, rfl, hg, hxk, hl, hr⟩ := hsr.at hlt
      obtain ⟨a, b, hxa, rfl⟩ := prs_at hxk
      have c0 : wr.cell? ⟨g, o + k * 2, none⟩ = some (.int .i64 a) := hr 0 _ rfl
      have c1 : wr.cell? ⟨g, o + k * 2 + 1, none⟩ = some (.int .i64 b) := hr 1 _ rfl
      have hT := Lib.hid (snd_take hxa)
      have hab := HB.out b (List.mem_map.2 ⟨(a, b), List.mem_of_getElem? hxa, rfl⟩)
      clear hxa hxk hl hr
      obtain ⟨sm, hsm⟩ : ∃ sm, ((xs.take k).map (·.2)).sum = sm := ⟨_, rfl⟩
      rw [hsm] at hb ⊢
      have HS := Lib.hid hsm
      clear hsm
      have b0 := hb.1
      have b1 := hb.2
      have x0 := hab.1
      have x1 := hab.2
      have b2 : sm ≤ 1000000000000 := by omega
      clear hb hab b1
      go_wp2_with fail
      refine name1 (Q := fun W => Calls _ _ _ W _) ?_
      intro W hl hs2 k1
      refine (fTot2_any a b W).mono ?_
      rintro e w2 ⟨rfl, l2⟩
      have L2 := (hlr.trans hl).trans l2
      go_wp2
      go_roundw
      case rel => exact ⟨k + 1, by omega, by go_num, by rw [hT.out, HS.out], L2⟩
      case measure => simp [intOf]; omega
    · obtain rfl : k = n := by omega
      have HT : Hid (xs.take k = xs) := List.take_of_length_le (by have := hs.1; simp [prs] at this; omega)
      clear hb
      go_wp2
      go_ret
      exact ⟨by rw [HT.out]; rfl, hlr⟩

theorem regInfo2 : (Tryz.prog.info? 49).map (·.size) = some 2 := by kernel_rfl
theorem fTotal_any (A : Option Addr) (n c : Nat) (xs : List (Int × Int)) (w : World) (hs : RowM w A 2 n (prs xs)) (hn : n ≤ 1000) (hx : ∀ x ∈ xs.map (·.1), 0 ≤ x ∧ x ≤ 1000000000) (hy : ∀ x ∈ xs.map (·.2), 0 ≤ x ∧ x ≤ 1000000000) :
    Calls Tryz.prog 21 #[.slice A n c] w (fun e w' => e = .returned (.agg #[.int .i64 (xs.map (·.1)).sum, .int .i64 (xs.map (·.2)).sum]) ∧ Lat w w') := by
  have H1 := fun w hs => fSum1_any A n c xs w hs hn hx
  have H2 := fun w hs => fSum2_any A n c xs w hs hn hy
  have HS := Lib.hid hs
  obtain ⟨s1, e1⟩ : ∃ s, (xs.map (·.1)).sum = s := ⟨_, rfl⟩
  obtain ⟨s2, e2⟩ : ∃ s, (xs.map (·.2)).sum = s := ⟨_, rfl⟩
  rw [e1] at H1 ⊢
  rw [e2] at H2 ⊢
  clear hs hx hy e1 e2
  go_enter Tryz.func21, Tryz.ntmps21
  go_wp2_with fail
  refine name1 (Q := fun W => Calls _ _ _ W _) ?_
  intro W hl hs2 k1
  refine (H1 W (HS.out.later hl)).mono ?_
  rintro e w1 ⟨rfl, l1⟩
  go_wp2_with fail
  refine (H2 w1 (HS.out.later (hl.trans l1))).mono ?_
  rintro e w2 ⟨rfl, l2⟩
  have K := k1.later (l1.trans l2)
  have L := (hl.trans l1).trans l2
  have d0 := K.cell 0
  have d1 := K.cell 1
  have f0 := K.frozen 0
  have f1 := K.frozen 1
  go_wp2
  refine bodyPost_ret (v := .agg #[.int .i64 s1, .int .i64 s2]) (by simp [results, Tryz.results21, go_sem, d0, d1]) rfl ?_
  exact ⟨rfl, (L.setCell (p := ⟨w.heap.size, 0, none⟩) (Nat.le_refl _) _).setCell (p := ⟨w.heap.size, 1, none⟩) (Nat.le_refl _) _⟩
end Go.Proofs.YtkjnjooggicgiaaGreat

/- Fair: the regions of an allocation. -/
namespace Go.Proofs.YtkjnjooggicgiaaGreat
open Go.RowKit
set_option linter.unusedSimpArgs false

/-- What is wrong with an allocation. -/
def hallE (P S : List Int) : Int := if censusB P = true then (if S.length = P.length ∧ inAll 0 1000 S = true ∧ 1 ≤ S.sum ∧ S.sum ≤ 1000 then 0 else 2) else 60
def HallPost (w : World) (P S : List Int) (e : Ending) (w' : World) : Prop :=
  Lat w w' ∧ ((hallE P S ≠ 0 ∧ e = .returned (.tuple #[.slice none 0 0, .agg #[.int .i64 0, .int .i64 0], .int .i64 (hallE P S)])) ∨
    (hallE P S = 0 ∧ ∃ v, e = .returned (.tuple #[v, .agg #[.int .i64 P.sum, .int .i64 S.sum], .int .i64 0]) ∧ OwnM w' w.heap.size 49 2 v (prs (P.zip S))))
theorem hall_ok {P S : List Int} (h : hallE P S = 0) : (P.length ≤ 60 ∧ (∀ x ∈ P, 0 ≤ x ∧ x ≤ 1000000000) ∧ 0 < P.sum) ∧ S.length = P.length ∧ (∀ x ∈ S, 0 ≤ x ∧ x ≤ 1000) ∧ 1 ≤ S.sum ∧ S.sum ≤ 1000 := by
  unfold hallE at h
  split at h
  · rename_i h1
    split at h
    · rename_i h2
      exact ⟨census_iff.1 h1, h2.1, inAll_iff.1 h2.2.1, h2.2.2⟩
    · cases h
  · cases h
theorem OwnM.base {w : World} {B B' m : Nat} {E : TypeId} {v : Value} {xs : List (List Value)} (h : OwnM w B E m v xs) (hB : B' ≤ B) : OwnM w B' E m v xs := by
  obtain ⟨h0, h1, h2⟩ := h
  refine ⟨h0, h1, ?_⟩
  rcases h2 with h2 | ⟨g, cap, cur, a1, a2, a3⟩
  · exact .inl h2
  · exact .inr ⟨g, cap, cur, a1, by omega, a3⟩
theorem OwnM.far {w : World} {B m : Nat} {E : TypeId} {v : Value} {xs : List (List Value)} (h : OwnM w B E m v xs) {p : Addr} (hp : p.block < B) (u : Value) : OwnM (w.setCell p u) B E m v xs := by
  refine h.kept fun g hg => Below.heap_setCell _ _ _ _ ?_
  rcases h.2.2 with ⟨rfl, _⟩ | ⟨g', cap, cur, rfl, hb, _⟩
  · cases hg
  · have : g' = g := by simpa [Value.ownBlock] using hg
    omega
theorem regInfoA : (Tryz.prog.info? 49).map (fun i => (i.zero, i.size, i.bytes)) = some (some (.agg #[.int .i64 0, .int .i64 0]), 2, 16) := by kernel_rfl
theorem prs_take_succ {P S : List Int} {k : Nat} {p s : Int} (hp : P[k]? = some p) (hs : S[k]? = some s) : prs ((P.zip S).take (k + 1)) = prs ((P.zip S).take k) ++ [[.int .i64 p, .int .i64 s]] := by
  have hz : (P.zip S)[k]? = some (p, s) := by rw [List.getElem?_zip_eq_some]; exact ⟨hp, hs⟩
  obtain ⟨hl, he⟩ := List.getElem?_eq_some_iff.1 hz
  rw [List.take_succ_eq_append_getElem hl, he]
  simp [prs]

set_option maxRecDepth 100000 in
set_option maxHeartbeats 2000000 in
theorem fHall_any (A1 : Option Addr) (n1 c1 : Nat) (P : List Int) (A2 : Option Addr) (n2 c2 : Nat) (S : List Int) (w : World) (hp : Sl w .i64 A1 n1 P) (hs : Sl w .i64 A2 n2 S) (hn1 : n1 ≤ 1000000) (hn2 : n2 ≤ 1000000) :
    Calls Tryz.prog 13 #[.slice A1 n1 c1, .slice A2 n2 c2] w (HallPost w P S) := by
  have HC : ∀ w', Lat w w' → Calls Tryz.prog 27 #[.slice A1 n1 c1] w' (fun e w'' => e = .returned (.int .i64 (cenE P)) ∧ w' = w'') := fun w' hl => qCheck_any A1 n1 c1 P w' (hp.later hl) (by omega)
  have HW : ∀ w', Lat w w' → Calls Tryz.prog 14 #[.int .i64 0, .int .i64 1000, .slice A2 n2 c2] w' (fun e w'' => e = .returned (.bool (inAll 0 1000 S)) ∧ Lat w' w'') := fun w' hl => fWithin_any 0 1000 A2 n2 c2 S w' (hs.later hl) (by omega)
  have hl1 := hp.1
  have hl2 := hs.1
  cases hcen : censusB P with
  | false =>
    have e0 : cenE P = 60 := cenE_no hcen
    have e1 : hallE P S = 60 := by rw [hallE, if_neg (by simp [hcen])]
    have e2 : HallPost w P S = fun e w' => Lat w w' ∧ e = .returned (.tuple #[.slice none 0 0, .agg #[.int .i64 0, .int .i64 0], .int .i64 60]) := by
      funext e w'
      simp [HallPost, e1]
    rw [e2]
    rw [e0] at HC
    clear e0 e1 e2 hcen hp hs hl1 hl2 HW
    go_enter Tryz.func13, Tryz.ntmps13
    go_wp2_with fail
    refine name1 (Q := fun W => Calls _ _ _ W _) ?_
    intro W hl hsz k1
    refine (HC W hl).mono ?_
    rintro e w1 ⟨rfl, rfl⟩
    have d0 := k1.cell 0
    have d1 := k1.cell 1
    have f0 := k1.frozen 0
    have f1 := k1.frozen 1
    go_wp2
    refine bodyPost_ret (v := .tuple #[.slice none 0 0, .agg #[.int .i64 0, .int .i64 0], .int .i64 60]) (by simp [results, Tryz.results13, go_sem, d0, d1]) rfl ?_
    exact ⟨(hl.setCell (p := ⟨w.heap.size, 0, none⟩) (Nat.le_refl _) _).setCell (p := ⟨w.heap.size, 1, none⟩) (Nat.le_refl _) _, rfl⟩
  | true =>
    have e0 : cenE P = 0 := cenE_yes hcen
    rw [e0] at HC
    by_cases hlen : n2 = n1
    · cases hin : inAll 0 1000 S with
      | false =>
        have e1 : hallE P S = 2 := by rw [hallE, if_pos hcen, if_neg (fun h => by rw [hin] at h; cases h.2.1)]
        have e2 : HallPost w P S = fun e w' => Lat w w' ∧ e = .returned (.tuple #[.slice none 0 0, .agg #[.int .i64 0, .int .i64 0], .int .i64 2]) := by
          funext e w'
          simp [HallPost, e1]
        rw [e2]
        rw [hin] at HW
        subst hlen
        clear e0 e1 e2 hcen hp hs hl1 hl2 hin
        go_enter Tryz.func13, Tryz.ntmps13
        go_wp2_with fail
        refine name1 (Q := fun W => Calls _ _ _ W _) ?_
        intro W hl hsz k1
        refine (HC W hl).mono ?_
        rintro e w1 ⟨rfl, rfl⟩
        go_wp2_with fail
        refine (HW W hl).mono ?_
        rintro e w1 ⟨rfl, l1⟩
        have K1 := k1.later l1
        have d0 := K1.cell 0
        have d1 := K1.cell 1
        have f0 := K1.frozen 0
        have f1 := K1.frozen 1
        go_wp2
        refine bodyPost_ret (v := .tuple #[.slice none 0 0, .agg #[.int .i64 0, .int .i64 0], .int .i64 2]) (by simp [results, Tryz.results13, go_sem, d0, d1]) rfl ?_
        exact ⟨((hl.trans l1).setCell (p := ⟨w.heap.size, 0, none⟩) (Nat.le_refl _) _).setCell (p := ⟨w.heap.size, 1, none⟩) (Nat.le_refl _) _, rfl⟩
      | true =>
        subst hlen
        have hcb := census_iff.1 hcen
        have hSb := inAll_iff.1 hin
        have hSs := sum_bound (xs := S) (fun x h => ⟨(hSb x h).1, by have := (hSb x h).2; omega⟩)
        have h60 : n2 ≤ 60 := by omega
        rw [hin] at HW
        have HT : ∀ w' A c, RowM w' A 2 n2 (prs (P.zip S)) → Calls Tryz.prog 21 #[.slice A n2 c] w' (fun e w'' => e = .returned (.agg #[.int .i64 P.sum, .int .i64 S.sum]) ∧ Lat w' w'') := fun w' A c h => by
          have m1 : (P.zip S).map (·.1) = P := List.map_fst_zip (by omega)
          have m2 : (P.zip S).map (·.2) = S := List.map_snd_zip (by omega)
          have := fTotal_any A n2 c (P.zip S) w' h (by omega) (by rw [m1]; exact hcb.2.1) (by rw [m2]; exact fun x hx => ⟨(hSb x hx).1, by have := (hSb x hx).2; omega⟩)
          rw [m1, m2] at this
          exact this
        have hzl : (P.zip S).length = n2 := by rw [List.length_zip]; omega
        obtain ⟨ps, hps⟩ : ∃ s, P.sum = s := ⟨_, rfl⟩
        obtain ⟨ss, hss⟩ : ∃ s, S.sum = s := ⟨_, rfl⟩
        have HE : Hid (hallE P S = if 1 ≤ ss ∧ ss ≤ 1000 then 0 else 2) := by
          show _ = _
          rw [hallE, if_pos hcen, hss]
          congr 1
          simp [hin, hl1, hl2]
        have HPS := Lib.hid hps
        have HSS := Lib.hid hss
        rw [hps, hss] at HT
        clear e0 hcen hcb hSb hSs hin hps hss
        go_enter Tryz.func13, Tryz.ntmps13
        go_wp2_with fail
        refine name1 (Q := fun W => Calls _ _ _ W _) ?_
        intro W hl hsz k1
        refine (HC W hl).mono ?_
        rintro e w1 ⟨rfl, rfl⟩
        go_wp2_with fail
        refine (HW W hl).mono ?_
        rintro e w1 ⟨rfl, l1⟩
        have K1 := k1.later l1
        have L1 := hl.trans l1
        clear HC HW k1 hl l1 hsz
        go_wp2
        go_loopw [4, 29] (fun v i wr => ∃ k : Nat, k ≤ n2 ∧ i = .int .i64 k ∧ OwnM wr w1.heap.size 49 2 v (prs ((P.zip S).take k)) ∧ Lat w1 wr) (fun _ i _ => n2 - (intOf i).toNat)
        case atStart => exact ⟨0, Nat.zero_le _, rfl, OwnM.nil _ _ _ _, Lat.refl _⟩
        case round =>
          rename_i wr
          obtain ⟨k, hk, rfl, hown, hlr⟩ := hrel
          by_cases hlt : k < n2
          · obtain ⟨a1, x1, rfl, ha1, hx1, hc1⟩ := (hp.later (L1.trans hlr)).at hlt
            obtain ⟨a2, x2, rfl, ha2, hx2, hc2⟩ := (hs.later (L1.trans hlr)).at hlt
            have HX := Lib.hid (prs_take_succ hx1 hx2)
            have hown' := hown.later (Lat.alloc wr (.cells #[.int .i64 x1, .int .i64 x2] 49))
            have hlen' : (prs ((P.zip S).take k)).length ≤ 100000000 := by simp [prs]; omega
            have hBs : w1.heap.size ≤ (wr.alloc (.cells #[.int .i64 x1, .int .i64 x2] 49)).heap.size := by have := hlr.size; simp; omega
            clear hx1 hx2
            go_wp2_with (at_builtin; refine wpList_pushM rfl _ _ 47 (by rfl) w1.heap.size 49 49 (.agg #[.int .i64 0, .int .i64 0]) 2 16 Tryz.underlying47 regInfoA rfl (by decide) (by decide) _ _ [.int .i64 x1, .int .i64 x2] (by simp [Value.oneCell']) _ wr.heap.size (by rfl) hown' (Blk.new _ _ _) rfl 1 (by rfl) hlen' hBs ?_; intro v' w' h1 h2 h3)
            go_roundw
            case rel => exact ⟨k + 1, by omega, by go_num, by rw [HX.out]; exact h1, h3 w1 (hlr.trans (Lat.alloc _ _)) (Nat.le_refl _)⟩
            case measure => simp [intOf]; omega
          · obtain rfl : k = n2 := by omega
            have htk : (P.zip S).take k = P.zip S := List.take_of_length_le (by omega)
            rw [htk] at hown
            have L2 := L1.trans hlr
            obtain ⟨A, c, rfl, hrow, hcap, hblk, hnone⟩ := hown.form
            have hpl : (prs (P.zip S)).length = k := by rw [prs, List.length_map, hzl]
            rw [hpl] at hrow hcap hown ⊢
            have K2 := K1.later hlr
            have ROW := Lib.hid hrow
            have OWN := Lib.hid hown
            clear htk hrow hown hnone
            go_wp2_with fail
            refine (HT wr A c ROW.out).mono ?_
            rintro e w3 ⟨rfl, l3⟩
            have K3 := K2.later l3
            have d0 := K3.cell 0
            have d1 := K3.cell 1
            have f0 := K3.frozen 0
            have f1 := K3.frozen 1
            go_wp2_with fail
            refine gen (Q := fun W => Calls _ _ _ W _) _ ?_
            intro W4 hW4
            have hlt3 : w.heap.size < w3.heap.size := K3.lt
            have s4 : ((w3.setCell ⟨w.heap.size, 0, none⟩ (.int .i64 ps)).setCell ⟨w.heap.size, 1, none⟩ (.int .i64 ss)).heap.size = w3.heap.size := by simp [World.setCell]
            have K5 : Blk W4 w.heap.size 49 #[.int .i64 ps, .int .i64 ss] := by
              rw [hW4]
              exact ((K3.set 0 (.int .i64 ps)).set 1 (.int .i64 ss)).alloc _
            have K6 : Blk W4 w3.heap.size 3 #[.int .i64 ss] := by
              rw [hW4]
              have := Blk.new ((w3.setCell ⟨w.heap.size, 0, none⟩ (.int .i64 ps)).setCell ⟨w.heap.size, 1, none⟩ (.int .i64 ss)) 3 #[.int .i64 ss]
              rw [s4] at this
              exact this
            have L4 : Lat w W4 := by
              rw [hW4]
              exact (((L2.trans l3).setCell (p := ⟨w.heap.size, 0, none⟩) (Nat.le_refl _) (.int .i64 ps)).setCell (p := ⟨w.heap.size, 1, none⟩) (Nat.le_refl _) (.int .i64 ss)).trans (Lat.alloc _ _)
            have OWN4 : Hid (OwnM W4 w1.heap.size 49 2 (.slice A k c) (prs (P.zip S))) := by
              show OwnM _ _ _ _ _ _
              have h0 := OWN.out.later l3
              have hw : ∀ g, (Value.slice A k c).ownBlock = some g → W4.heap[g]? = w3.heap[g]? := by
                intro g hg
                have hA : ∃ a, A = some a ∧ a.block = g := by
                  cases A with
                  | none => cases hg
                  | some a => exact ⟨a, rfl, by simpa [Value.ownBlock] using hg⟩
                obtain ⟨a, rfl, rfl⟩ := hA
                have hb := hblk a rfl
                have hK1 := K1.lt
                rw [hW4, Below.heap_alloc _ _ _ (by rw [s4]; have := l3.size; omega), Below.heap_setCell _ _ _ _ (by show a.block ≠ w.heap.size; omega), Below.heap_setCell _ _ _ _ (by show a.block ≠ w.heap.size; omega)]
              exact h0.kept hw
            clear hW4 s4 d0 d1 f0 f1 K3 OWN ROW K2 l3
            refine (fWithin_any 1 1000 (some ⟨w3.heap.size, 0, none⟩) 1 1 [ss] W4 (Sl.of_blk' (t := 3) K6 rfl) (by omega)).mono ?_
            rintro e w5 ⟨rfl, l5⟩
            have K7 := K5.later l5
            have L5 := L4.trans l5
            have OWN5 := Lib.hid (OWN4.out.later l5)
            have hz5 := K7.lt
            clear K5 K6 L4 OWN4 l5
            by_cases hss : 1 ≤ ss ∧ ss ≤ 1000
            · have e1 : inAll 1 1000 [ss] = true := inAll_iff.2 (by intro x hx; simp at hx; subst hx; exact hss)
              have HE2 : Hid (hallE P S = 0) := by show _ = _; rw [HE.out, if_pos hss]
              rw [e1]
              have d0 := K7.cell 0
              have d1 := K7.cell 1
              have f0 := K7.frozen 0
              have f1 := K7.frozen 1
              clear HE hss e1
              go_wp2
              go_region
              all_goals
                go_wp2
                refine bodyPost_ret (v := .tuple #[.slice A k c, .agg #[.int .i64 ps, .int .i64 ss], .int .i64 0]) (by simp [results, Tryz.results13, go_sem, d0, d1]) rfl ?_
                refine ⟨((L5.setCell (p := ⟨w.heap.size, 0, none⟩) (Nat.le_refl _) _).setCell (p := ⟨w.heap.size, 1, none⟩) (Nat.le_refl _) _).trans (Lat.drew _), .inr ⟨HE2.out, _, by rw [HPS.out, HSS.out], ?_⟩⟩
                have hzz : w.heap.size < w1.heap.size := K1.lt
                exact ((((OWN5.out.far (p := ⟨w.heap.size, 0, none⟩) hzz (.int .i64 ps)).far (p := ⟨w.heap.size, 1, none⟩) hzz (.int .i64 ss)).later (Lat.drew _)).base (by omega))
            · have e1 : inAll 1 1000 [ss] = false := by
                rw [← Bool.not_eq_true, inAll_iff]
                exact fun h => hss (h ss (by simp))
              have HE2 : Hid (hallE P S = 2) := by show _ = _; rw [HE.out, if_neg hss]
              rw [e1]
              have d0 := K7.cell 0
              have d1 := K7.cell 1
              have f0 := K7.frozen 0
              have f1 := K7.frozen 1
              clear HE hss e1
              go_wp2
              refine bodyPost_ret (v := .tuple #[.slice none 0 0, .agg #[.int .i64 0, .int .i64 0], .int .i64 2]) (by simp [results, Tryz.results13, go_sem, d0, d1]) rfl ?_
              exact ⟨(L5.setCell (p := ⟨w.heap.size, 0, none⟩) (Nat.le_refl _) _).setCell (p := ⟨w.heap.size, 1, none⟩) (Nat.le_refl _) _, .inl ⟨by rw [HE2.out]; decide, by rw [HE2.out]⟩⟩
    · have e1 : hallE P S = 2 := by rw [hallE, if_pos hcen, if_neg (fun h => hlen (by omega))]
      have e2 : HallPost w P S = fun e w' => Lat w w' ∧ e = .returned (.tuple #[.slice none 0 0, .agg #[.int .i64 0, .int .i64 0], .int .i64 2]) := by
        funext e w'
        simp [HallPost, e1]
      rw [e2]
      have hd : ((n2 : Int) == (n1 : Int)) = false := by simp; omega
      have hd2 : ((n2 : Int) != (n1 : Int)) = true := by simp; omega
      clear e0 e1 e2 hcen hp hs hl1 hl2 HW
      go_enter Tryz.func13, Tryz.ntmps13
      go_wp2_with fail
      refine name1 (Q := fun W => Calls _ _ _ W _) ?_
      intro W hl hsz k1
      refine (HC W hl).mono ?_
      rintro e w1 ⟨rfl, rfl⟩
      have d0 := k1.cell 0
      have d1 := k1.cell 1
      have f0 := k1.frozen 0
      have f1 := k1.frozen 1
      go_wp2
      refine bodyPost_ret (v := .tuple #[.slice none 0 0, .agg #[.int .i64 0, .int .i64 0], .int .i64 2]) (by simp [results, Tryz.results13, go_sem, d0, d1]) rfl ?_
      exact ⟨(hl.setCell (p := ⟨w.heap.size, 0, none⟩) (Nat.le_refl _) _).setCell (p := ⟨w.heap.size, 1, none⟩) (Nat.le_refl _) _, rfl⟩
end Go.Proofs.YtkjnjooggicgiaaGreat

/- Fair: the regions that break the quota rule. -/
namespace Go.Proofs.YtkjnjooggicgiaaGreat
open Go.RowKit
set_option linter.unusedSimpArgs false

/-- What is told of region i. -/
def brk1 (all T p s : Int) (i : Nat) : List (Int × Int) :=
  if s < p * T / all then [((i : Int), -1)] else if (p * T + all - 1) / all < s then [((i : Int), 1)] else []
/-- What is told of the first k regions. -/
def brkT (all T : Int) (xs : List (Int × Int)) : Nat → List (Int × Int)
  | 0 => []
  | k + 1 => brkT all T xs k ++ brk1 all T ((xs[k]?).getD (0, 0)).1 ((xs[k]?).getD (0, 0)).2 k
theorem brkT_succ {all T p s : Int} {xs : List (Int × Int)} {k : Nat} (h : xs[k]? = some (p, s)) : brkT all T xs (k + 1) = brkT all T xs k ++ brk1 all T p s k := by
  rw [brkT, h]; rfl
theorem brk1_len (all T p s : Int) (i : Nat) : (brk1 all T p s i).length ≤ 1 := by unfold brk1; split; simp; split <;> simp
theorem brkT_len (all T : Int) (xs : List (Int × Int)) (k : Nat) : (brkT all T xs k).length ≤ k := by
  induction k with
  | zero => simp [brkT]
  | succ k ih =>
    have := brk1_len all T ((xs[k]?).getD (0, 0)).1 ((xs[k]?).getD (0, 0)).2 k
    rw [brkT, List.length_append]; omega
theorem prs_snoc (l : List (Int × Int)) (a b : Int) : prs (l ++ [(a, b)]) = prs l ++ [[.int .i64 a, .int .i64 b]] := by simp [prs]
theorem arrInfoA : (Tryz.prog.info? 44).map (fun i => (i.zero, i.size, i.bytes)) = some (some (.agg #[.int .i64 0, .int .i64 0]), 2, 16) := by kernel_rfl

theorem mul_bound' {a b A B : Int} (ha : 0 ≤ a) (hA : a ≤ A) (hb : 0 ≤ b) (hB : b ≤ B) : 0 ≤ a * b ∧ a * b ≤ A * B :=
  ⟨Int.mul_nonneg ha hb, Int.mul_le_mul hA hB hb (by omega)⟩
/-- What Breaks leaves. -/
def BreaksPost (w : World) (P S : List Int) (e : Ending) (w' : World) : Prop :=
  Lat w w' ∧ ((hallE P S ≠ 0 ∧ e = .returned (.tuple #[.slice none 0 0, .int .i64 (hallE P S)])) ∨
    (hallE P S = 0 ∧ ∃ v, e = .returned (.tuple #[v, .int .i64 0]) ∧ OwnM w' w.heap.size 44 2 v (prs (brkT P.sum S.sum (P.zip S) P.length))))

set_option maxRecDepth 100000 in
set_option maxHeartbeats 2000000 in
theorem fBreaks_any (A1 : Option Addr) (n1 c1 : Nat) (P : List Int) (A2 : Option Addr) (n2 c2 : Nat) (S : List Int) (w : World) (hp : Sl w .i64 A1 n1 P) (hs : Sl w .i64 A2 n2 S) (hn1 : n1 ≤ 1000000) (hn2 : n2 ≤ 1000000) :
    Calls Tryz.prog 5 #[.slice A1 n1 c1, .slice A2 n2 c2] w (BreaksPost w P S) := by
  have HH := fHall_any A1 n1 c1 P A2 n2 c2 S w hp hs hn1 hn2
  by_cases hE : hallE P S = 0
  · have hok := hall_ok hE
    have HPost : Hid (∀ _u : Unit, BreaksPost w P S = fun e w' => Lat w w' ∧ ∃ v, e = .returned (.tuple #[v, .int .i64 0]) ∧ OwnM w' w.heap.size 44 2 v (prs (brkT P.sum S.sum (P.zip S) P.length))) := by
      intro _
      funext e w'
      simp [BreaksPost, hE]
    rw [HPost.out ()]
    have HH' : Calls Tryz.prog 13 #[.slice A1 n1 c1, .slice A2 n2 c2] w (fun e w' => Lat w w' ∧ ∃ v, e = .returned (.tuple #[v, .agg #[.int .i64 P.sum, .int .i64 S.sum], .int .i64 0]) ∧ OwnM w' w.heap.size 49 2 v (prs (P.zip S))) :=
      HH.mono fun e w' h => ⟨h.1, h.2.elim (fun h => absurd hE h.1) (fun h => h.2)⟩
    obtain ⟨n, hn⟩ : ∃ n, P.length = n := ⟨_, rfl⟩
    obtain ⟨xs, hxs⟩ : ∃ xs, P.zip S = xs := ⟨_, rfl⟩
    have hxl : xs.length = n := by rw [← hxs, List.length_zip]; omega
    have hn60 : n ≤ 60 := by omega
    have HX : Hid (∀ (k : Nat) (a b : Int), xs[k]? = some (a, b) → (0 ≤ a ∧ a ≤ 1000000000) ∧ 0 ≤ b ∧ b ≤ 1000) := by
      intro k a b h
      rw [← hxs, List.getElem?_zip_eq_some] at h
      exact ⟨hok.1.2.1 a (List.mem_of_getElem? h.1), hok.2.2.1 b (List.mem_of_getElem? h.2)⟩
    have hPb := (sum_bound hok.1.2.1).2
    have hP0 := hok.1.2.2
    have hS0 := hok.2.2.2.1
    have hS1 := hok.2.2.2.2
    rw [hxs] at HH'
    rw [hn, hxs]
    obtain ⟨all, hall⟩ : ∃ s, P.sum = s := ⟨_, rfl⟩
    obtain ⟨T, hT⟩ : ∃ s, S.sum = s := ⟨_, rfl⟩
    rw [hall] at HH' hPb hP0 ⊢
    rw [hT] at HH' hS0 hS1 ⊢
    have hall1 : all ≤ 1000000000000 := by omega
    clear HPost HH hp hs hE hok hxs hall hT hPb
    go_enter Tryz.func5, Tryz.ntmps5
    go_wp2_with fail
    refine HH'.mono ?_
    rintro e w1 ⟨l1, v, rfl, hown⟩
    obtain ⟨A, c, rfl, hrow, hcap, hblk, _⟩ := hown.form
    have hpl : (prs xs).length = n := by rw [prs, List.length_map, hxl]
    rw [hpl] at hrow hcap ⊢
    have ROW := Lib.hid hrow
    clear hown hrow HH'
    go_wp2
    refine name1 (Q := fun W => Code.wp _ _ _ _ W) ?_
    intro W1 hl1 hs1 k1
    have LW := l1.trans hl1
    have hzW : w.heap.size ≤ W1.heap.size := LW.size
    go_loopw [9, 26] (fun v i wr => ∃ k : Nat, k ≤ n ∧ i = .int .i64 k ∧ OwnM wr W1.heap.size 44 2 v (prs (brkT all T xs k)) ∧ Lat W1 wr) (fun _ i _ => n - (intOf i).toNat)
    case atStart => exact ⟨0, Nat.zero_le _, rfl, OwnM.nil _ _ _ _, Lat.refl _⟩
    case round =>
      rename_i wr
      obtain ⟨k, hk, rfl, hown, hlr⟩ := hrel
      have hsr := ROW.out.later (hl1.trans hlr)
      have kr := k1.later hlr
      have d0 := kr.ever 0 rfl
      have d1 := kr.ever 1 rfl
      by_cases hlt : k < n
      · obtain ⟨g, o, x, rfl, hg, hxk, hl, hr⟩ := hsr.at hlt
        obtain ⟨p, s, hxa, rfl⟩ := prs_at hxk
        have c0 : wr.cell? ⟨g, o + k * 2, none⟩ = some (.int .i64 p) := hr 0 _ rfl
        have c1 : wr.cell? ⟨g, o + k * 2 + 1, none⟩ = some (.int .i64 s) := hr 1 _ rfl
        have hB := Lib.hid (brkT_succ (all := all) (T := T) hxa)
        obtain ⟨⟨p0, p1⟩, s0, s1⟩ := HX.out k p s hxa
        have hpT := mul_bound' p0 p1 (show 0 ≤ T by omega) hS1
        have m1 : wrap64 (p * T) = p * T := IntWalk.wrap64_in _ (by omega)
        have m2 : IntKind.i64.wrap (p * T) = p * T := IntWalk.i64_in _ (by omega)
        have hol : (prs (brkT all T xs k)).length ≤ 100000000 := by have := brkT_len all T xs k; simp [prs]; omega
        have La := Lat.alloc wr (.cells #[.int .i64 p, .int .i64 s] 49)
        clear hxa hxk hl hr hsr
        by_cases q1 : s < p * T / all
        · have HB1 : Hid (brk1 all T p s k = [((k : Int), -1)]) := by show _ = _; rw [brk1, if_pos q1]
          have hown' := (hown.later La).later (Lat.alloc (wr.alloc (.cells #[.int .i64 p, .int .i64 s] 49)) (.cells #[.int .i64 k, .int .i64 (-1)] 44))
          have hBs : W1.heap.size ≤ ((wr.alloc (.cells #[.int .i64 p, .int .i64 s] 49)).alloc (.cells #[.int .i64 k, .int .i64 (-1)] 44)).heap.size := by have := hlr.size; simp; omega
          have hl2 := (hlr.trans La).trans (Lat.alloc (wr.alloc (.cells #[.int .i64 p, .int .i64 s] 49)) (.cells #[.int .i64 k, .int .i64 (-1)] 44))
          go_wp2_with (at_builtin; refine wpList_pushM rfl _ _ 27 (by rfl) W1.heap.size 44 44 (.agg #[.int .i64 0, .int .i64 0]) 2 16 Tryz.underlying27 arrInfoA rfl (by decide) (by decide) _ _ [.int .i64 k, .int .i64 (-1)] (by simp [Value.oneCell']) _ (wr.heap.size + 1) (by rfl) hown' (by have := Blk.new (wr.alloc (.cells #[.int .i64 p, .int .i64 s] 49)) 44 #[.int .i64 k, .int .i64 (-1)]; rw [show (wr.alloc (.cells #[.int .i64 p, .int .i64 s] 49)).heap.size = wr.heap.size + 1 by simp] at this; exact this) rfl 1 (by rfl) hol hBs ?_; intro v' w' h1 h2 h3)
          go_roundw
          case rel => exact ⟨k + 1, by omega, by go_num, by rw [hB.out, HB1.out, prs_snoc]; exact h1, h3 W1 hl2 (Nat.le_refl _)⟩
          case measure => simp [intOf]; omega
        · by_cases q2 : (p * T + all - 1) / all < s
          · have HB1 : Hid (brk1 all T p s k = [((k : Int), 1)]) := by show _ = _; rw [brk1, if_neg q1, if_pos q2]
            have q1' : p * T / all ≤ s := by omega
            have hown' := (hown.later La).later (Lat.alloc (wr.alloc (.cells #[.int .i64 p, .int .i64 s] 49)) (.cells #[.int .i64 k, .int .i64 (1)] 44))
            have hBs : W1.heap.size ≤ ((wr.alloc (.cells #[.int .i64 p, .int .i64 s] 49)).alloc (.cells #[.int .i64 k, .int .i64 (1)] 44)).heap.size := by have := hlr.size; simp; omega
            have hl2 := (hlr.trans La).trans (Lat.alloc (wr.alloc (.cells #[.int .i64 p, .int .i64 s] 49)) (.cells #[.int .i64 k, .int .i64 (1)] 44))
            go_wp2_with (at_builtin; refine wpList_pushM rfl _ _ 27 (by rfl) W1.heap.size 44 44 (.agg #[.int .i64 0, .int .i64 0]) 2 16 Tryz.underlying27 arrInfoA rfl (by decide) (by decide) _ _ [.int .i64 k, .int .i64 (1)] (by simp [Value.oneCell']) _ (wr.heap.size + 1) (by rfl) hown' (by have := Blk.new (wr.alloc (.cells #[.int .i64 p, .int .i64 s] 49)) 44 #[.int .i64 k, .int .i64 (1)]; rw [show (wr.alloc (.cells #[.int .i64 p, .int .i64 s] 49)).heap.size = wr.heap.size + 1 by simp] at this; exact this) rfl 1 (by rfl) hol hBs ?_; intro v' w' h1 h2 h3)
            go_roundw
            case rel => exact ⟨k + 1, by omega, by go_num, by rw [hB.out, HB1.out, prs_snoc]; exact h1, h3 W1 hl2 (Nat.le_refl _)⟩
            case measure => simp [intOf]; omega
          · have HB1 : Hid (brk1 all T p s k = []) := by show _ = _; rw [brk1, if_neg q1, if_neg q2]
            have q1' : p * T / all ≤ s := by omega
            have q2' : s ≤ (p * T + all - 1) / all := by omega
            go_wp2
            go_roundw
            case rel => exact ⟨k + 1, by omega, by go_num, by rw [hB.out, HB1.out, List.append_nil]; exact hown.later La, hlr.trans La⟩
            case measure => simp [intOf]; omega
      · obtain rfl : k = n := by omega
        clear d0 d1
        go_wp2
        go_ret2
        exact ⟨LW.trans hlr, _, rfl, hown.base hzW⟩
  · have HPost : Hid (∀ _u : Unit, BreaksPost w P S = fun e w' => Lat w w' ∧ e = .returned (.tuple #[.slice none 0 0, .int .i64 (hallE P S)])) := by
      intro _
      funext e w'
      simp [BreaksPost, hE]
    rw [HPost.out ()]
    have HH' : Calls Tryz.prog 13 #[.slice A1 n1 c1, .slice A2 n2 c2] w (fun e w' => Lat w w' ∧ e = .returned (.tuple #[.slice none 0 0, .agg #[.int .i64 0, .int .i64 0], .int .i64 (hallE P S)])) :=
      HH.mono fun e w' h => ⟨h.1, h.2.elim (fun h => h.2) (fun h => absurd h.1 hE)⟩
    obtain ⟨er, her⟩ : ∃ er, hallE P S = er := ⟨_, rfl⟩
    rw [her] at HH' hE ⊢
    have hb : ((er : Int) != 0) = true := by simpa using hE
    clear HPost HH hp hs hE her
    go_enter Tryz.func5, Tryz.ntmps5
    go_wp2_with fail
    refine HH'.mono ?_
    rintro e w1 ⟨l1, rfl⟩
    go_wp2
    go_ret2
    exact ⟨l1.trans (Lat.alloc _ _), rfl⟩
end Go.Proofs.YtkjnjooggicgiaaGreat

/- Equal slices of pairs of numbers. -/
namespace Go.Proofs.YtkjnjooggicgiaaGreat
open Go.RowKit
set_option linter.unusedSimpArgs false

theorem intInfoQ : (Tryz.prog.info? 3).map (fun i => (i.zero, i.size, i.bytes)) = some (some (.int .i64 0), 1, 8) := by kernel_rfl
theorem arr_eq (a b : Int) (w : World) : (Op.equalIn 10000 44 (.agg #[.int .i64 a, .int .i64 b]) (.agg #[.int .i64 a, .int .i64 b])).run Tryz.prog w = .ok true w := by
  obtain ⟨i0, hi0, hz0, hz1, hz2⟩ := info_parts intInfoQ
  have hc : Tryz.prog.cellsOf 3 = 1 := by kernel_rfl
  rw [run_equalIn_array w 9999 _ _ Tryz.underlying44 hi0, hc]
  rw [show List.range 2 = [0, 1] from rfl]
  have hp : Tryz.prog.plainKey 3 = true := by kernel_rfl
  have p1 : (part 3 #[.int .i64 a, .int .i64 b] 0).run Tryz.prog w = .ok (.int .i64 a) w := run_part_plain w hp rfl
  have p2 : (part 3 #[.int .i64 a, .int .i64 b] 1).run Tryz.prog w = .ok (.int .i64 b) w := run_part_plain w hp rfl
  have p3 : ∀ x : Int, (Op.equalIn 9999 3 (.int .i64 x) (.int .i64 x)).run Tryz.prog w = .ok true w := fun x => by
    have := run_equalIn_int (P := Tryz.prog) w 9998 3 .i64 .i64 x x Tryz.underlying3
    simpa using this
  rw [Op.eqItems]
  simp only [Nat.zero_mul, Sem.run_bind, p1, p3, Result.andThen_ok]
  simp [Op.eqItems, p2, p3, Result.andThen_ok]
set_option maxRecDepth 100000 in
set_option maxHeartbeats 2000000 in
theorem equal22_yes (A1 : Option Addr) (n c1 : Nat) (xs : List (Int × Int)) (A2 : Option Addr) (c2 : Nat) (w : World) (h1 : RowM w A1 2 n (prs xs)) (h2 : RowM w A2 2 n (prs xs)) (hn : n ≤ 1000000) :
    Calls Tryz.prog 10 #[.slice A1 n c1, .slice A2 n c2] w (fun e w' => e = .returned (.bool true) ∧ Lat w w') := by
  go_enter Tryz.func10, Tryz.ntmps10
  go_wp2
  go_loopw [13] (fun i wr => ∃ k : Nat, k ≤ n ∧ i = .int .i64 k ∧ Lat w wr) (fun i _ => n - (intOf i).toNat)
  case atStart => exact ⟨0, Nat.zero_le _, rfl, Lat.refl _⟩
  case round =>
    rename_i wr
    obtain ⟨k, hk, rfl, hlr⟩ := hrel
    by_cases hlt : k < n
    · obtain ⟨g, o, x, rfl, hg, hxk, hl, hr⟩ := (h1.later hlr).at hlt
      obtain ⟨g', o', x', rfl, hg', hxk', hl', hr'⟩ := (h2.later hlr).at hlt
      rw [hxk] at hxk'
      cases hxk'
      obtain ⟨a, b, hxa, rfl⟩ := prs_at hxk
      have c0 : wr.cell? ⟨g, o + k * 2, none⟩ = some (.int .i64 a) := hr 0 _ rfl
      have c1 : wr.cell? ⟨g, o + k * 2 + 1, none⟩ = some (.int .i64 b) := hr 1 _ rfl
      have d0 : wr.cell? ⟨g', o' + k * 2, none⟩ = some (.int .i64 a) := hr' 0 _ rfl
      have d1 : wr.cell? ⟨g', o' + k * 2 + 1, none⟩ = some (.int .i64 b) := hr' 1 _ rfl
      have HN := arr_eq a b
      clear hxa hxk hl hr hl' hr'
      go_wp2
      go_region
      all_goals
        go_wp2
        go_roundw
        case rel => exact ⟨k + 1, by omega, by go_num, hlr.trans (Lat.drew _)⟩
        case measure => simp [intOf]; omega
    · obtain rfl : k = n := by omega
      go_wp2
      go_ret
      exact ⟨rfl, hlr⟩
end Go.Proofs.YtkjnjooggicgiaaGreat
