/- Several texts in one: QgP, QgR. -/
import Derived.Test.YteocdndanehpnaaGreatH42
import Derived.Test.YteocdndanehpnaaGreatH40
import Derived.Test.YteocdndanehpnaaGreatH39
import Derived.Test.YteocdndanehpnaaGreatH41
import Derived.Test.YteocdndanehpnaaGreatH29
import Derived.Test.YteocdndanehpnaaGreatH38
namespace Go.Proofs.YteocdndanehpnaaGreat
open Go.RowKit
def clearB (bs : List Bool) (L : List Nat) : List Bool := L.foldl (fun b i => b.set i false) bs
theorem clearB_len (L : List Nat) : ∀ bs : List Bool, (clearB bs L).length = bs.length := by
 induction L with
 | nil => intro bs; rfl
 | cons x r ih => intro bs; rw [clearB, List.foldl_cons, ← clearB, ih]; simp
theorem clearB_get (L : List Nat) : ∀ (bs : List Bool) (i : Nat), (clearB bs L).getD i false = (bs.getD i false && decide (i ∉ L)) := by
 induction L with
 | nil => intro bs i; simp [clearB]
 | cons x r ih =>
   intro bs i
   rw [clearB, List.foldl_cons, ← clearB, ih]
   simp only [List.getD_eq_getElem?_getD, List.getElem?_set, List.mem_cons, not_or]
   by_cases hx : x = i
   ·subst hx
    by_cases hl : x < bs.length
    ·simp [hl]
    ·simp [hl]
   ·have hx' : ¬ i = x := fun e => hx e.symm
    simp [hx, hx']
theorem clearB_snoc (bs : List Bool) (L : List Nat) (i : Nat) : clearB bs (L ++ [i]) = (clearB bs L).set i false := by simp [clearB]
theorem memL_clear (bs : List Bool) (L : List Nat) (n : Nat) : memL (clearB bs L) n = (memL bs n).filter (fun i => decide (i ∉ L)) := by
 unfold memL
 rw [List.filter_filter]
 refine List.filter_congr fun i _ => ?_
 rw [clearB_get, Bool.and_comm]
theorem memL_low (bs : List Bool) (n : Nat) (q : Nat → Bool) : memL (clearB bs ((memL bs n).filter q)) n = (memL bs n).filter (fun i => !q i) := by
 rw [memL_clear]
 refine List.filter_congr fun i hi => ?_
 cases h : q i with
 | true =>
   have : i ∈ (memL bs n).filter q := List.mem_filter.2 ⟨hi, h⟩
   simp [this]
 | false =>
   have : i ∉ (memL bs n).filter q := fun hm => by have := (List.mem_filter.1 hm).2; rw [h] at this; cases this
   simp [this]
theorem memL_all (n : Nat) : memL (List.replicate n true) n = List.range n := by
 unfold memL
 rw [List.filter_eq_self]
 intro i hi
 rw [List.mem_range] at hi
 simp [List.getD_eq_getElem?_getD, hi]
theorem quoGo_stop {k : Int} {p least : Nat → Int} {fuel : Nat} {c : List Nat} {S : List Int} {o : Int} (ho : o ≤ 0) : quoGo k p least fuel c S o = some ⟨S, [], 0, []⟩ := by
 cases fuel with
 | zero => rfl
 | succ f => rw [quoGo, if_pos ho]
theorem quoGo_none {k : Int} {p least : Nat → Int} {fuel : Nat} {c : List Nat} {S : List Int} {o : Int} (ho : 0 < o) (hz : (c.map p).sum = 0) : quoGo k p least (fuel + 1) c S o = none := by
 rw [quoGo, if_neg (by omega), if_pos hz]
theorem quoGo_end {k : Int} {p least : Nat → Int} {fuel : Nat} {c : List Nat} {S : List Int} {o N D : Int} (ho : 0 < o) (hz : (c.map p).sum ≠ 0) (hN : quoN k (c.map p).sum o = N) (hD : quoD k o = D)
  (hl : quoLow p least c N D = []) : quoGo k p least (fuel + 1) c S o = quoEnd p c S o N D := by
 subst hN hD
 rw [quoGo, if_neg (by omega), if_neg hz, if_pos hl]
theorem quoGo_low {k : Int} {p least : Nat → Int} {fuel : Nat} {c : List Nat} {S : List Int} {o N D : Int} (ho : 0 < o) (hz : (c.map p).sum ≠ 0) (hN : quoN k (c.map p).sum o = N) (hD : quoD k o = D)
  (hl : quoLow p least c N D ≠ []) : quoGo k p least (fuel + 1) c S o = quoGo k p least fuel (c.filter (fun i => !decide (p i * D < least i * N))) (putAt S (quoLow p least c N D) least) (o - ((quoLow p least c N D).map least).sum) := by
 subst hN hD
 rw [quoGo, if_neg (by omega), if_neg hz, if_neg hl]
 congr 1
 exact List.filter_congr fun i _ => by rw [decide_not]
theorem low_split (c : List Nat) (f : Nat → Int) (q : Nat → Bool) : ((c.filter q).map f).sum + ((c.filter (fun i => !q i)).map f).sum = (c.map f).sum := by
 induction c with
 | nil => rfl
 | cons x r ih => cases h : q x <;> simp [h] <;> omega
theorem low_len (c : List Nat) (q : Nat → Bool) : (c.filter q).length + (c.filter (fun i => !q i)).length = c.length := by
 induction c with
 | nil => rfl
 | cons x r ih => cases h : q x <;> simp [h] <;> omega
theorem putAt_snoc (S : List Int) (c : List Nat) (f : Nat → Int) (i : Nat) : putAt S (c ++ [i]) f = (putAt S c f).set i (f i) := by simp [putAt]
def lowT (q : Nat → Bool) (c : List Nat) (j : Nat) : List Nat := (c.take j).filter q
theorem lowT_yes {q : Nat → Bool} {c : List Nat} {j i : Nat} (h : c[j]? = some i) (hq : q i = true) : lowT q c (j + 1) = lowT q c j ++ [i] := col_yes h hq
theorem lowT_no {q : Nat → Bool} {c : List Nat} {j i : Nat} (h : c[j]? = some i) (hq : q i = false) : lowT q c (j + 1) = lowT q c j := col_no h hq
theorem lowT_all (q : Nat → Bool) (c : List Nat) {j : Nat} (h : c.length ≤ j) : lowT q c j = c.filter q := by rw [lowT, List.take_of_length_le h]
theorem lowT_sum {q : Nat → Bool} {c : List Nat} {f : Nat → Int} (h : ∀ i ∈ c, 0 ≤ f i) (j : Nat) : 0 ≤ ((lowT q c j).map f).sum ∧ ((lowT q c j).map f).sum ≤ (c.map f).sum := by
 have h1 : ∀ l : List Nat, (∀ i ∈ l, 0 ≤ f i) → 0 ≤ (l.map f).sum := fun l hl => sum_nonneg hl
 have h2 := low_split (c.take j) f q
 have h3 : ((c.take j).map f).sum + ((c.drop j).map f).sum = (c.map f).sum := by rw [← List.sum_append, ← List.map_append, List.take_append_drop]
 have a := h1 ((c.take j).filter q) (fun i hi => h i (List.mem_of_mem_take (List.mem_filter.1 hi).1))
 have b := h1 ((c.take j).filter (fun i => !q i)) (fun i hi => h i (List.mem_of_mem_take (List.mem_filter.1 hi).1))
 have d := h1 (c.drop j) (fun i hi => h i (List.mem_of_mem_drop hi))
 show 0 ≤ (((c.take j).filter q).map f).sum ∧ _
 unfold lowT
 omega
theorem own_one {w : World} {B m : Nat} {E : TypeId} {v : Value} {xs : List (List Value)} (h : OwnM w B E m v xs) (hne : 0 < xs.length) (h1 : ∀ x ∈ xs, ∀ u ∈ x, u.oneCell' = true) : ∃ g c, v = .slice (some ⟨g, 0, none⟩) xs.length c ∧ RowB w g E m xs ∧ B ≤ g ∧ xs.length ≤ c := by
 have h0 := h
 obtain ⟨_, hl, h2⟩ := h
 rcases h2 with ⟨e, hz⟩ | ⟨g', cap, cur, e, hb, hg, hnc, _⟩
 ·omega
 ·subst e
  exact ⟨g', cap, rfl, (RowB.of_own h0 h1).1, hb, hnc⟩
theorem range_atI (L : List Int) : (List.range L.length).map (atI L) = L := by
 refine List.ext_getElem (by simp) fun i h1 h2 => ?_
 simp only [List.getElem_map, List.getElem_range]
 exact atI_of (List.getElem?_eq_getElem h2)
theorem prs_one (xs : List (Int × Int)) : ∀ x ∈ prs xs, ∀ u ∈ x, u.oneCell' = true := by
 intro x hx u hu
 obtain ⟨y, _, rfl⟩ := List.mem_map.1 hx
 simp at hu
 rcases hu with rfl | rfl <;> rfl
theorem bls_one (bs : List Bool) : ∀ x ∈ bls bs, ∀ u ∈ x, u.oneCell' = true := by
 intro x hx u hu
 obtain ⟨y, _, rfl⟩ := List.mem_map.1 hx
 simp at hu
 subst hu
 rfl
theorem Put.rowN {w w' : World} {g gS n : Nat} {t : TypeId} {cs : Array Value} {S : List Int} (h : Put w w' g t cs) (hS : RowN w gS n S) (hne : gS ≠ g) : RowN w' gS n S := by
 obtain ⟨cur, h1, h2⟩ := hS
 exact ⟨cur, h.keep h1 hne, h2⟩
theorem Put.slk {w w' : World} {g n : Nat} {t : TypeId} {cs : Array Value} {k : IntKind} {A : Option Addr} {xs : List Int} (h : Put w w' g t cs) (hs : Sl w k A n xs) (hk : ∀ a, A = some a → a.block ≠ g) : Sl w' k A n xs := by
 refine ⟨hs.1, fun hn => ?_⟩
 obtain ⟨a, e, hlt, hc⟩ := hs.2 hn
 refine ⟨a, e, by rw [h.size]; exact hlt, fun j x hx => ?_⟩
 rw [← hc j x hx]
 exact World.cell?_of_block (by rw [block_add]; exact h.far _ (hk a e))
theorem awInfo3 : (Tryz.prog.info? 47).map (·.size) = some 3 := by kernel_rfl
theorem clR_one (p l : Nat → Int) (d n : Int) (c : List Nat) : ∀ x ∈ clR p l d n c, ∀ u ∈ x, u.oneCell' = true := by
 intro x hx u hu
 obtain ⟨i, _, rfl⟩ := clR_mem hx
 exact clV_one p l d n i u hu
theorem bls_set (bs : List Bool) (i : Nat) (b : Bool) : (bls bs).set i [.bool b] = bls (bs.set i b) := by simp [bls, List.map_set]
theorem SetIs.clear {W : World} {r gR gB n c c' : Nat} {xs : List (Int × Int)} {bs : List Bool} (h : SetIs W r gR gB n c c' xs bs) {i : Nat} (hi : i < n) : SetIs (W.setCell ⟨gB, i, none⟩ (.bool false)) r gR gB n c c' xs (bs.set i false) := by
 have hl := latP_setQ W gB i (.bool false)
 obtain ⟨h1, h2, h3, h4, h5⟩ := h
 obtain ⟨q1, cs3, hb3, q3⟩ := id h3
 obtain ⟨q2, cs2, hb2, q4⟩ := id h2
 have n1 : r ≠ gB := blk_apart h1 hb3 (by decide)
 have n2 : gR ≠ gB := blk_apart hb2 hb3 (by decide)
 refine ⟨h1.keepP hl n1, h2.kept (hl.block _ h2.lt n2), ?_, h4, by rw [List.length_set]; exact h5⟩
 have hs := h3.set (i := i) (y := [.bool false]) (by simp [bls]; omega) rfl (by intro v hv; simp at hv; subst hv; rfl)
 rw [bls_set, Nat.mul_one] at hs
 exact hs
theorem SetIs.row {W w : World} {r gR gB n c c' gS m : Nat} {xs : List (Int × Int)} {bs : List Bool} {S : List Int} (h : SetIs W r gR gB n c c' xs bs) (hS : RowN W gS m S) (hl : LatP (· = gS) W w) : SetIs w r gR gB n c c' xs bs := by
 obtain ⟨cur, hb, _⟩ := hS
 obtain ⟨h1, h2, h3, h4, h5⟩ := id h
 obtain ⟨_, cs3, hb3, _⟩ := h3
 obtain ⟨_, cs2, hb2, _⟩ := h2
 exact h.keepP hl (blk_apart h1 hb (by decide)) (blk_apart hb2 hb (by decide)) (blk_apart hb3 hb (by decide))
theorem rows_apart {W : World} {g g' m m' : Nat} {E E' : TypeId} {xs ys : List (List Value)} (h : RowB W g E m xs) (h' : RowB W g' E' m' ys) (hE : E ≠ E') : g ≠ g' := by
 obtain ⟨_, _, hb, _⟩ := h
 obtain ⟨_, _, hb', _⟩ := h'
 exact blk_apart hb hb' hE
def GivP (w : World) (n : Nat) (r : Option Aw) (e : Ending) (w' : World) : Prop :=
 Lat w w' ∧ match r with
 | none => e = .returned (.tuple #[.agg #[.slice none 0 0, .slice none 0 0, .int .i64 0], .int .i64 9])
 | some A => ∃ gS cS At ct, e = .returned (.tuple #[.agg #[.slice (some ⟨gS, 0, none⟩) n cS, .slice At A.tied.length ct, .int .i64 A.left], .int .i64 0]) ∧ RowN w' gS n A.seats ∧ Sl w' .i64 At A.tied.length (A.tied.map fun t : Nat => (t : Int)) ∧ A.tied.length ≤ ct ∧ w.heap.size ≤ gS ∧
    (∀ a, At = some a → w.heap.size ≤ a.block)
structure GoesQ (k : Int) (p l : Nat → Int) (r : Option Aw) (s : Int) (n : Nat) (bs : List Bool) (S : List Int) (o : Int) : Prop where
 lenb : bs.length = n
 lenS : S.length = n
 o1 : o ≤ s
 low : ((memL bs n).map l).sum ≤ o
 rest : quoGo k p l ((memL bs n).length + 1) (memL bs n) S o = r
theorem quoGo_fuel {k : Int} {p least : Nat → Int} : ∀ (f g : Nat) (c : List Nat) (S : List Int) (o : Int), c.length < f → c.length < g → quoGo k p least f c S o = quoGo k p least g c S o := by
 intro f
 induction f with
 | zero => intro g c S o h; omega
 | succ f ih =>
   intro g c S o hf hg
   cases g with
   | zero => omega
   | succ g =>
     rw [quoGo, quoGo]
     split
     ·rfl
     ·split
      ·rfl
      ·split
       ·rfl
       ·rename_i hl
        have hlen := low_len c (fun i => decide (p i * quoD k o < least i * quoN k (c.map p).sum o))
        have hpos : 0 < (c.filter (fun i => decide (p i * quoD k o < least i * quoN k (c.map p).sum o))).length := List.length_pos_iff.2 hl
        have e : (c.filter (fun i => decide (¬ p i * quoD k o < least i * quoN k (c.map p).sum o))).length = (c.filter (fun i => !decide (p i * quoD k o < least i * quoN k (c.map p).sum o))).length := by
         congr 1; exact List.filter_congr fun i _ => by rw [decide_not]
        exact ih g _ _ _ (by omega) (by omega)
theorem GoesQ.next {k : Int} {p l : Nat → Int} {r : Option Aw} {s : Int} {n : Nat} {bs : List Bool} {S : List Int} {o N D : Int} (h : GoesQ k p l r s n bs S o) (hl : ∀ i, 0 ≤ l i) (ho : 0 < o) (hz : ((memL bs n).map p).sum ≠ 0)
  (hN : quoN k ((memL bs n).map p).sum o = N) (hD : quoD k o = D) (hne : quoLow p l (memL bs n) N D ≠ []) :
  GoesQ k p l r s n (clearB bs (quoLow p l (memL bs n) N D)) (putAt S (quoLow p l (memL bs n) N D) l) (o - ((quoLow p l (memL bs n) N D).map l).sum) ∧ (memL (clearB bs (quoLow p l (memL bs n) N D)) n).length < (memL bs n).length := by
 have hm := memL_low bs n (fun i => decide (p i * D < l i * N))
 have hlen := low_len (memL bs n) (fun i => decide (p i * D < l i * N))
 have hsum := low_split (memL bs n) l (fun i => decide (p i * D < l i * N))
 have hpos : 0 < ((memL bs n).filter (fun i => decide (p i * D < l i * N))).length := List.length_pos_iff.2 hne
 have h0 : 0 ≤ (((memL bs n).filter (fun i => decide (p i * D < l i * N))).map l).sum := sum_nonneg (fun i _ => hl i)
 have hr := h.rest
 rw [quoGo_low ho hz hN hD hne] at hr
 unfold quoLow at *
 refine ⟨⟨by rw [clearB_len]; exact h.lenb, by rw [putAt_length]; exact h.lenS, by have := h.o1; omega, ?_, ?_⟩, ?_⟩
 ·rw [hm]
  have := h.low
  omega
 ·rw [hm, ← hr]
  exact quoGo_fuel _ _ _ _ _ (by omega) (by omega)
 ·rw [hm]
  omega
theorem lowq_pos {p l : Nat → Int} {c : List Nat} {N D : Int} (hp : ∀ i, 0 ≤ p i) (hl : ∀ i, 0 ≤ l i) (hD : 0 ≤ D) (hne : quoLow p l c N D ≠ []) : 0 < ((quoLow p l c N D).map l).sum := by
 have h1 : ∀ i ∈ quoLow p l c N D, 0 < l i := by
  intro i hi
  have h := (List.mem_filter.1 hi).2
  have h2 : p i * D < l i * N := by simpa using h
  have h3 := Int.mul_nonneg (hp i) hD
  rcases Int.lt_or_le 0 (l i) with h4 | h4
  ·exact h4
  ·have h5 := hl i
   have h6 : l i = 0 := by omega
   rw [h6, Int.zero_mul] at h2
   omega
 revert h1 hne
 generalize quoLow p l c N D = L
 intro hne h1
 cases L with
 | nil => exact absurd rfl hne
 | cons x r =>
   have h2 := h1 x (by simp)
   have h3 : 0 ≤ (r.map l).sum := sum_nonneg (fun i _ => hl i)
   simp only [List.map_cons, List.sum_cons]
   omega
def lowV (x : List Value) : Bool := decide (intOf (x.getD 3 undef) < intOf (x.getD 1 undef))
theorem lowV_cl {p l : Nat → Int} {d n : Int} (hn : 0 < n) (i : Nat) : lowV (clV p l d n i) = decide (p i * d < l i * n) := by
 show decide (p i * d / n < l i) = _
 exact decide_eq_decide.2 (whole_below hn)
theorem lowV_any {p l : Nat → Int} {d n : Int} (hn : 0 < n) (c : List Nat) : (clR p l d n c).any lowV = !decide (quoLow p l c n d = []) := by
 unfold clR quoLow
 rw [List.any_map]
 induction c with
 | nil => rfl
 | cons x r ih =>
   rw [List.any_cons, ih, Function.comp, lowV_cl hn, List.filter_cons]
   cases h : decide (p x * d < l x * n) <;> simp
theorem lowV_call (p l : Nat → Int) (d n : Int) (c : List Nat) : ∀ x ∈ clR p l d n c, ∀ w', Calls Tryz.prog 47 #[.agg x.toArray] w' (fun e w'' => e = .returned (.bool (lowV x)) ∧ Lat w' w'') := by
 intro x hx w'
 obtain ⟨i, _, rfl⟩ := clR_mem hx
 exact below_gen (clV p l d n i).toArray (l i) (p i * d / n) rfl rfl (claimSizeX p l d n i) w'
theorem end_any (p l : Nat → Int) (c : List Nat) (N : Nat) (o n d : Int) (S : List Int) (gS cS gC cc : Nat) (hok : EndOk p c N o n d) (w : World) (hS : RowN w gS N S) (hC : RowB w gC 101 20 (clR p l d n c)) (hcc : c.length ≤ cc) :
  Calls Tryz.prog 48 #[.agg #[.slice (some ⟨gS, 0, none⟩) N cS, .slice none 0 0, .int .i64 0], .slice (some ⟨gC, 0, none⟩) c.length cc, .int .i64 o] w (EndPost w gS N cS gC (quoEnd p c S o n d)) := by
 by_cases hf : o - (c.map (fun i => p i * d / n)).sum < 0 ∨ ((c.filter (fun i => decide (0 < p i))).length : Int) < o - (c.map (fun i => p i * d / n)).sum
 ·rw [end_fail hf]
  exact end_f p l c N o n d S gS cS gC cc hok w hS hC hcc hf
 ·have hperm := lotM_perm p d n c
  have hlen := hperm.length_eq
  obtain ⟨k, hk⟩ : ∃ k : Nat, o - (c.map (fun i => p i * d / n)).sum = (k : Int) := ⟨(o - (c.map (fun i => p i * d / n)).sum).toNat, by omega⟩
  have hkl : k ≤ (lotM p d n c).length := by omega
  by_cases ht : 0 < k ∧ k < (lotM p d n c).length ∧ ∀ a b, (lotM p d n c)[k]? = some a → (lotM p d n c)[k - 1]? = some b → p a * d % n = p b * d % n
  ·exact end_t p l c N o n d S gS cS gC cc hok w hS hC hcc k hk hkl ht.1 ht.2.1 ht.2.2
  ·have hcut : ∀ a b, (lotM p d n c)[k]? = some a → 0 < k → (lotM p d n c)[k - 1]? = some b → p a * d % n ≠ p b * d % n := by
    intro a b ha h0 hb he
    refine ht ⟨h0, (List.getElem?_eq_some_iff.1 ha).1, fun a' b' ha' hb' => ?_⟩
    rw [ha] at ha'; rw [hb] at hb'
    cases ha'; cases hb'
    exact he
   rw [end_cut hok.asc (by have := hok.n0; omega) hperm (lotM_desc p d n c) hk hkl hcut]
   exact end_c p l c N o n d S gS cS gC cc hok w hS hC hcc k hk hkl hcut
theorem pX_zip : ∀ {P M : List Int}, P.length = M.length → ∀ i, pX (P.zip M) i = atI P i ∧ lX (P.zip M) i = atI M i
 | [], [], _, i => by simp [pX, lX, atI]
 | x :: P, y :: M, h, 0 => by simp [pX, lX, atI]
 | x :: P, y :: M, h, i + 1 => by
   have h1 := pX_zip (P := P) (M := M) (by simpa using h) i
   simpa [pX, lX, atI] using h1
theorem zip_take {P M : List Int} {j : Nat} {a b : Int} (h1 : P[j]? = some a) (h2 : M[j]? = some b) : (P.zip M).take (j + 1) = (P.zip M).take j ++ [(a, b)] := by
 have hz : (P.zip M)[j]? = some (a, b) := by rw [List.getElem?_zip_eq_some]; exact ⟨h1, h2⟩
 obtain ⟨hl, e⟩ := List.getElem?_eq_some_iff.1 hz
 rw [List.take_succ_eq_append_getElem hl, e]
theorem goes_start {k s : Int} {n : Nat} {P M : List Int} {R : Option Aw} (hP : P.length = n) (hM : M.length = n) (hMs : M.sum ≤ s) (hR : quoGo k (pX (P.zip M)) (lX (P.zip M)) (n + 1) (List.range n) (List.replicate n 0) s = R) :
  GoesQ k (pX (P.zip M)) (lX (P.zip M)) R s n (List.replicate n true) (List.replicate n 0) s := by
 refine ⟨by simp, by simp, Int.le_refl _, ?_, ?_⟩
 ·rw [memL_all]
  have e : (List.range n).map (lX (P.zip M)) = M := by
   rw [← hM]
   refine Eq.trans (List.map_congr_left fun i _ => (pX_zip (by omega) i).2) (range_atI M)
  rw [e]
  exact hMs
 ·rw [memL_all, List.length_range]
  exact hR
end Go.Proofs.YteocdndanehpnaaGreat
namespace Go.Proofs.YteocdndanehpnaaGreat
open Go.RowKit
set_option linter.unusedSimpArgs false
set_option linter.unusedVariables false
theorem runs_pushM {P : Program} {o : Oper} {ev : Operand → Value} {w : World} {R : Value → World → Prop} (s x : Operand) (t : TypeId)
  (ho : o.op = .call { callee := .builtin .append, args := #[s, x], argTypes := #[t, t] })
  (B : Nat) (E T : TypeId) (z : Value) (m by_ : Nat) (ht : P.underlying t = some (.slice E)) (hinfo : (P.info? E).map (fun i => (i.zero, i.size, i.bytes)) = some (some z, m, by_)) (hz : z.cells.size = m) (hm : 0 < m) (hby : by_ ≤ 1000)
  (v : Value) (xs : List (List Value)) (y : List Value) (hys : ∀ u ∈ y, u.oneCell' = true) (g : Nat) (hs : ev s = v) (hown : OwnM w B E m v xs) (hb : Blk w g T y.toArray)
  (hy : y.length = m) (c : Nat) (hx : ev x = .slice (some ⟨g, 0, none⟩) 1 c) (hlen : xs.length ≤ 100000000) (hB : B ≤ w.heap.size)
  (h : ∀ v' w', OwnM w' B E m v' (xs ++ [y]) → w.grownBy w' v.ownBlock → R v' w') : Runs P o ev w R := by
 obtain ⟨i0, hi, hz0, hz1, hz2⟩ := info_parts hinfo
 obtain ⟨v', w', hr, h1, h2, _⟩ := run_append_own (P := P) w B t o.type E i0 z m by_ ht hi hz0 hz1 hz2 hz hm v xs.length _ hown.2 ⟨g, 0, none⟩ 1 c y (by omega) (by
  intro j u hu
  have e : (⟨g, 0, none⟩ : Addr).add j = ⟨g, j, none⟩ := by unfold Addr.add; split <;> simp_all
  rw [e, hb.cell j]
  simpa using hu) hys (by unfold maxLen; omega) (by have := Nat.mul_le_mul_left (xs.length + 1) hby; omega) hB
 refine .inl ⟨v', w', ?_, h v' w' ⟨fun u hu => ?_, ?_⟩ h2⟩
 ·unfold execOp
  simp only [ho, resolve, invoke, builtin, Sem.run_bind, Sem.run_pure, Result.andThen_ok, List.map_toArray, List.map_cons, List.map_nil, hs, hx, hr]
 ·rcases List.mem_append.1 hu with hu | hu
  ·exact hown.1 u hu
  ·rw [List.mem_singleton] at hu; subst hu; exact hy
 ·rw [List.length_append, List.flatten_append]
  simpa using h1
theorem regInfo : (Tryz.prog.info? 90).map (fun i => (i.zero, i.size, i.bytes)) = some (some (.agg #[.int .i64 0, .int .i64 0]), 2, 16) := by kernel_rfl
theorem boolInfo : (Tryz.prog.info? 4).map (fun i => (i.zero, i.size, i.bytes)) = some (some (.bool false), 1, 1) := by kernel_rfl
structure RaceG (w0 : World) (r : Nat) (v1 v2 : Value) (xs bs : List (List Value)) (y : List Value) (b12 b13 b18 b19 b22 b25 : Bool) (s72 s73 s78 s79 : Option Value) (w : World) : Prop where
 lat : Lat w0 w
 hr : w0.heap.size ≤ r
 blk : ∃ x1 x2, Blk w r 88 #[x1, x2] ∧ (b22 = true → s73 = some x1) ∧ (b22 = false → x1 = v1) ∧ (b25 = true → s79 = some x2) ∧ (b25 = false → x2 = v2)
 o72 : b12 = true → b13 = false → ∃ g, s72 = some (.slice (some ⟨g, 0, none⟩) 1 1) ∧ Blk w g 90 y.toArray
 o78 : b18 = true → b19 = false → ∃ g, s78 = some (.slice (some ⟨g, 0, none⟩) 1 1) ∧ Blk w g 4 #[.bool true]
 p0 : b13 = false → OwnM w w0.heap.size 90 2 v1 xs
 p1 : b13 = true → ∃ v', s73 = some v' ∧ OwnM w w0.heap.size 90 2 v' (xs ++ [y])
 q0 : b19 = false → OwnM w w0.heap.size 4 1 v2 bs
 q1 : b19 = true → ∃ v', s79 = some v' ∧ OwnM w w0.heap.size 4 1 v' (bs ++ [[.bool true]])
section
variable {w0 : World} {r : Nat} {v1 v2 : Value} {xs bs : List (List Value)} {y : List Value} {b12 b13 b18 b19 b22 b25 : Bool} {s72 s73 s78 s79 : Option Value} {w w' : World}
theorem RaceG.later (h : RaceG w0 r v1 v2 xs bs y b12 b13 b18 b19 b22 b25 s72 s73 s78 s79 w) (hl : Lat w w') : RaceG w0 r v1 v2 xs bs y b12 b13 b18 b19 b22 b25 s72 s73 s78 s79 w' := by
 obtain ⟨lat, hr, ⟨x1, x2, hb, h1⟩, o72, o78, p0, p1, q0, q1⟩ := h
 refine ⟨lat.trans hl, hr, ⟨x1, x2, hb.later hl, h1⟩, fun a b => ?_, fun a b => ?_, fun a => (p0 a).later hl, fun a => ?_, fun a => (q0 a).later hl, fun a => ?_⟩
 ·obtain ⟨g, e, k⟩ := o72 a b; exact ⟨g, e, k.later hl⟩
 ·obtain ⟨g, e, k⟩ := o78 a b; exact ⟨g, e, k.later hl⟩
 ·obtain ⟨v, e, k⟩ := p1 a; exact ⟨v, e, k.later hl⟩
 ·obtain ⟨v, e, k⟩ := q1 a; exact ⟨v, e, k.later hl⟩
theorem own_type {B m : Nat} {E : TypeId} {v : Value} {xs : List (List Value)} {g : Nat} {T : TypeId} {cs : Array Value} (h : OwnM w B E m v xs) (hb : Blk w g T cs) (ht : T ≠ E) : ¬ some g = v.ownBlock := fun e => by
 obtain ⟨_, _, cs', h2⟩ := h.at_ g e.symm
 exact blk_apart hb h2 ht rfl
theorem own_types {B m B' m' : Nat} {E E' : TypeId} {v v' : Value} {xs xs' : List (List Value)} (h : OwnM w B E m v xs) (h' : OwnM w B' E' m' v' xs') (ht : E ≠ E') : ∀ g, v.ownBlock = some g → ¬ some g = v'.ownBlock := fun g e => by
 obtain ⟨_, _, cs', h2⟩ := h.at_ g e
 exact own_type h' h2 ht
theorem grown_latP {ob : Option Nat} (h : w.grownBy w' ob) : LatP (fun q => some q = ob) w w' := ⟨h.os, h.tape, h.output, h.size, fun j hj hn => h.block j hj hn⟩
theorem RaceG.alloc12 (h : RaceG w0 r v1 v2 xs bs y b12 b13 b18 b19 b22 b25 s72 s73 s78 s79 w) :
  RaceG w0 r v1 v2 xs bs y true b13 b18 b19 b22 b25 (some (.slice (some ⟨w.heap.size, 0, none⟩) 1 1)) s73 s78 s79 (w.alloc (.cells y.toArray 90)) := by
 obtain ⟨lat, hr, blk, o72, o78, p0, p1, q0, q1⟩ := h.later (Lat.alloc w (.cells y.toArray 90))
 exact ⟨lat, hr, blk, fun _ _ => ⟨_, rfl, Blk.new _ _ _⟩, o78, p0, p1, q0, q1⟩
theorem RaceG.alloc18 (h : RaceG w0 r v1 v2 xs bs y b12 b13 b18 b19 b22 b25 s72 s73 s78 s79 w) :
  RaceG w0 r v1 v2 xs bs y b12 b13 true b19 b22 b25 s72 s73 (some (.slice (some ⟨w.heap.size, 0, none⟩) 1 1)) s79 (w.alloc (.cells #[.bool true] 4)) := by
 obtain ⟨lat, hr, blk, o72, o78, p0, p1, q0, q1⟩ := h.later (Lat.alloc w (.cells #[.bool true] 4))
 exact ⟨lat, hr, blk, o72, fun _ _ => ⟨_, rfl, Blk.new _ _ _⟩, p0, p1, q0, q1⟩
theorem RaceG.push13 (h : RaceG w0 r v1 v2 xs bs y b12 false b18 b19 b22 b25 s72 s73 s78 s79 w) (h22 : b22 = false) {v' : Value} (ho : OwnM w' w0.heap.size 90 2 v' (xs ++ [y])) (hg : w.grownBy w' v1.ownBlock) :
  RaceG w0 r v1 v2 xs bs y b12 true b18 b19 b22 b25 s72 (some v') s78 s79 w' := by
 obtain ⟨lat, hr, ⟨x1, x2, hb, h1, h2, h3⟩, o72, o78, p0, p1, q0, q1⟩ := h
 have P0 := p0 rfl
 have hl := grown_latP hg
 have hlt := P0.lat lat (Nat.le_refl _) hg
 subst h22
 refine ⟨hlt, hr, ⟨x1, x2, hb.keepP hl (own_type P0 hb (by decide)), fun h => (by cases h), h2, h3⟩, fun _ h => (by cases h), fun a b => ?_, fun h => (by cases h), fun _ => ⟨_, rfl, ho⟩, fun a => ?_, fun a => ?_⟩
 ·obtain ⟨g, e, k⟩ := o78 a b; exact ⟨g, e, k.keepP hl (own_type P0 k (by decide))⟩
 ·exact (q0 a).keepP hl (own_types (q0 a) P0 (by decide))
 ·obtain ⟨v, e, k⟩ := q1 a; exact ⟨v, e, k.keepP hl (own_types k P0 (by decide))⟩
theorem RaceG.push19 (h : RaceG w0 r v1 v2 xs bs y b12 true b18 false b22 b25 s72 s73 s78 s79 w) (h25 : b25 = false) {v' : Value} (ho : OwnM w' w0.heap.size 4 1 v' (bs ++ [[.bool true]])) (hg : w.grownBy w' v2.ownBlock) :
  RaceG w0 r v1 v2 xs bs y b12 true b18 true b22 b25 s72 s73 s78 (some v') w' := by
 obtain ⟨lat, hr, ⟨x1, x2, hb, h1, h2, h3, h4⟩, o72, o78, p0, p1, q0, q1⟩ := h
 have Q0 := q0 rfl
 have hl := grown_latP hg
 have hlt := Q0.lat lat (Nat.le_refl _) hg
 subst h25
 refine ⟨hlt, hr, ⟨x1, x2, hb.keepP hl (own_type Q0 hb (by decide)), h1, h2, fun h => (by cases h), h4⟩, fun _ h => (by cases h), fun _ h => (by cases h), fun h => (by cases h), fun a => ?_, fun h => (by cases h), fun _ => ⟨_, rfl, ho⟩⟩
 obtain ⟨v, e, k⟩ := p1 a; exact ⟨v, e, k.keepP hl (own_types k Q0 (by decide))⟩
theorem RaceG.set22 (h : RaceG w0 r v1 v2 xs bs y b12 true b18 true false b25 s72 s73 s78 s79 w) {x : Value} (hs : s73 = some x) : RaceG w0 r v1 v2 xs bs y b12 true b18 true true b25 s72 s73 s78 s79 (w.setCell ⟨r, 0, none⟩ x) := by
 obtain ⟨lat, hr, ⟨x1, x2, hb, h1, h2, h3⟩, o72, o78, p0, p1, q0, q1⟩ := h
 have hl := latP_setQ w r 0 x
 refine ⟨LatP.lat (M := (· = r)) lat hl (fun q e => by subst e; exact hr), hr, ⟨x, x2, hb.set 0 x, fun _ => hs, fun h => (by cases h), h3⟩, fun _ h => (by cases h), fun _ h => (by cases h), fun h => (by cases h), fun a => ?_, fun h => (by cases h), fun a => ?_⟩
 ·obtain ⟨v, e, k⟩ := p1 a; exact ⟨v, e, k.keepP hl (fun g hg e => by subst e; exact own_type k hb (by decide) hg.symm)⟩
 ·obtain ⟨v, e, k⟩ := q1 a; exact ⟨v, e, k.keepP hl (fun g hg e => by subst e; exact own_type k hb (by decide) hg.symm)⟩
theorem RaceG.set25 (h : RaceG w0 r v1 v2 xs bs y b12 true b18 true true false s72 s73 s78 s79 w) {x : Value} (hs : s79 = some x) : RaceG w0 r v1 v2 xs bs y b12 true b18 true true true s72 s73 s78 s79 (w.setCell ⟨r, 1, none⟩ x) := by
 obtain ⟨lat, hr, ⟨x1, x2, hb, h1, h2, h3⟩, o72, o78, p0, p1, q0, q1⟩ := h
 have hl := latP_setQ w r 1 x
 refine ⟨LatP.lat (M := (· = r)) lat hl (fun q e => by subst e; exact hr), hr, ⟨x1, x, hb.set 1 x, h1, h2, fun _ => hs, fun h => (by cases h)⟩, fun _ h => (by cases h), fun _ h => (by cases h), fun h => (by cases h), fun a => ?_, fun h => (by cases h), fun a => ?_⟩
 ·obtain ⟨v, e, k⟩ := p1 a; exact ⟨v, e, k.keepP hl (fun g hg e => by subst e; exact own_type k hb (by decide) hg.symm)⟩
 ·obtain ⟨v, e, k⟩ := q1 a; exact ⟨v, e, k.keepP hl (fun g hg e => by subst e; exact own_type k hb (by decide) hg.symm)⟩
end
def qg12_tbl : List (List Nat) := [[], [], [], [2], [3], [4], [], [], [], [7, 8], [9], [6, 10], [11], [5, 12], [], [14], [15], [16], [], [17, 18, 13], [0, 0, 2, 3, 4, 5, 6, 7, 8, 9, 10, 11, 12, 13, 17, 19], [20, 0, 2, 3, 4, 5, 6, 7, 8, 9, 10, 11, 12, 13, 17, 19], [21, 13, 19, 0, 2, 3, 4, 5, 6, 7, 8, 9, 10, 11, 12, 13, 17, 19], [1, 0, 1, 2, 3, 4, 5, 6, 7, 8, 9, 10, 11, 12, 13, 14, 15, 16, 17, 18, 19, 20, 21, 22], [23, 0, 1, 2, 3, 4, 5, 6, 7, 8, 9, 10, 11, 12, 13, 14, 15, 16, 17, 18, 19, 20, 21, 22], [24, 19, 22, 0, 1, 2, 3, 4, 5, 6, 7, 8, 9, 10, 11, 12, 13, 14, 15, 16, 17, 18, 19, 20, 21, 22]]
def G12 (w0 : World) (r : Nat) (v1 v2 : Value) (xs bs : List (List Value)) (y : List Value) (m : Nat) (a : Act) (w : World) : Prop :=
 RaceG w0 r v1 v2 xs bs y (m.testBit 12) (m.testBit 13) (m.testBit 18) (m.testBit 19) (m.testBit 22) (m.testBit 25) a.tmps[72]? a.tmps[73]? a.tmps[78]? a.tmps[79]? w
section
variable {w0 : World} {r : Nat} {v1 v2 : Value} {xs bs : List (List Value)} {y : List Value} {m : Nat} {a : Act} {w w' : World}
theorem G12.pure (h : G12 w0 r v1 v2 xs bs y m a w) {i d : Nat} {v : Value} (hi : (i ≠ 12 ∧ i ≠ 13 ∧ i ≠ 18 ∧ i ≠ 19) ∧ i ≠ 22 ∧ i ≠ 25) (hd : d ≠ 72 ∧ d ≠ 73 ∧ d ≠ 78 ∧ d ≠ 79) : G12 w0 r v1 v2 xs bs y (m ||| 2 ^ i) (a.put (some d) v) w := by
 obtain ⟨⟨i1, i2, i3, i4⟩, i5, i6⟩ := hi
 obtain ⟨d1, d2, d3, d4⟩ := hd
 unfold G12 at *
 rw [bit_other i1, bit_other i2, bit_other i3, bit_other i4, bit_other i5, bit_other i6, slot_other d1, slot_other d2, slot_other d3, slot_other d4]
 exact h
theorem G12.lat (h : G12 w0 r v1 v2 xs bs y m a w) : Lat w0 w := RaceG.lat h
theorem G12.c1 (h : G12 w0 r v1 v2 xs bs y m a w) (hb : m.testBit 22 = false) : w.cell? ⟨r, 0, none⟩ = some v1 := by
 obtain ⟨x1, x2, k, _, h1, _⟩ := RaceG.blk h
 rw [k.cell 0, ← h1 hb]; rfl
theorem G12.c2 (h : G12 w0 r v1 v2 xs bs y m a w) (hb : m.testBit 25 = false) : w.cell? ⟨r, 1, none⟩ = some v2 := by
 obtain ⟨x1, x2, k, _, _, _, h1⟩ := RaceG.blk h
 rw [k.cell 1, ← h1 hb]; rfl
theorem G12.there (h : G12 w0 r v1 v2 xs bs y m a w) (i : Nat) (hi : i < 2) : (∃ u, w.cell? ⟨r, i, none⟩ = some u) ∧ w.frozen? ⟨r, i, none⟩ = false := by
 obtain ⟨x1, x2, k, _⟩ := RaceG.blk h
 refine ⟨?_, k.frozen i⟩
 rw [k.cell i]
 match i, hi with
 | 0, _ => exact ⟨_, rfl⟩
 | 1, _ => exact ⟨_, rfl⟩
theorem put_self {a : Act} {d : Nat} {v : Value} (h : d < a.tmps.size) : (a.put (some d) v).tmps[d]? = some v := by simp [Act.put, h]
theorem G12.alloc12 (h : G12 w0 r v1 v2 xs bs y m a w) (_hm : m.testBit 12 = false) (hs : 72 < a.tmps.size) : G12 w0 r v1 v2 xs bs y (m ||| 2 ^ 12) (a.put (some 72) (.slice (some ⟨w.heap.size, 0, none⟩) 1 1)) (w.alloc (.cells y.toArray 90)) := by
 unfold G12 at *
 rw [bit_self, bit_other (i := 12) (j := 13) (by decide), bit_other (i := 12) (j := 18) (by decide), bit_other (i := 12) (j := 19) (by decide), bit_other (i := 12) (j := 22) (by decide), bit_other (i := 12) (j := 25) (by decide), put_self hs, slot_other (d := 72) (d' := 73) (by decide), slot_other (d := 72) (d' := 78) (by decide), slot_other (d := 72) (d' := 79) (by decide)]
 exact RaceG.alloc12 h
theorem G12.alloc18 (h : G12 w0 r v1 v2 xs bs y m a w) (_hm : m.testBit 18 = false) (hs : 78 < a.tmps.size) : G12 w0 r v1 v2 xs bs y (m ||| 2 ^ 18) (a.put (some 78) (.slice (some ⟨w.heap.size, 0, none⟩) 1 1)) (w.alloc (.cells #[.bool true] 4)) := by
 unfold G12 at *
 rw [bit_self, bit_other (i := 18) (j := 12) (by decide), bit_other (i := 18) (j := 13) (by decide), bit_other (i := 18) (j := 19) (by decide), bit_other (i := 18) (j := 22) (by decide), bit_other (i := 18) (j := 25) (by decide), put_self hs, slot_other (d := 78) (d' := 72) (by decide), slot_other (d := 78) (d' := 73) (by decide), slot_other (d := 78) (d' := 79) (by decide)]
 exact RaceG.alloc18 h
theorem G12.push13 (h : G12 w0 r v1 v2 xs bs y m a w) (hm : m.testBit 13 = false) (h22 : m.testBit 22 = false) (hs : 73 < a.tmps.size) {v' : Value} (ho : OwnM w' w0.heap.size 90 2 v' (xs ++ [y])) (hg : w.grownBy w' v1.ownBlock) : G12 w0 r v1 v2 xs bs y (m ||| 2 ^ 13) (a.put (some 73) v') w' := by
 unfold G12 at *
 rw [bit_self, bit_other (i := 13) (j := 12) (by decide), bit_other (i := 13) (j := 18) (by decide), bit_other (i := 13) (j := 19) (by decide), bit_other (i := 13) (j := 22) (by decide), bit_other (i := 13) (j := 25) (by decide), put_self hs, slot_other (d := 73) (d' := 72) (by decide), slot_other (d := 73) (d' := 78) (by decide), slot_other (d := 73) (d' := 79) (by decide)]
 rw [hm] at h
 exact RaceG.push13 h h22 ho hg
theorem G12.push19 (h : G12 w0 r v1 v2 xs bs y m a w) (hm : m.testBit 19 = false) (h13 : m.testBit 13 = true) (h25 : m.testBit 25 = false) (hs : 79 < a.tmps.size) {v' : Value} (ho : OwnM w' w0.heap.size 4 1 v' (bs ++ [[.bool true]])) (hg : w.grownBy w' v2.ownBlock) : G12 w0 r v1 v2 xs bs y (m ||| 2 ^ 19) (a.put (some 79) v') w' := by
 unfold G12 at *
 rw [bit_self, bit_other (i := 19) (j := 12) (by decide), bit_other (i := 19) (j := 13) (by decide), bit_other (i := 19) (j := 18) (by decide), bit_other (i := 19) (j := 22) (by decide), bit_other (i := 19) (j := 25) (by decide), put_self hs, slot_other (d := 79) (d' := 72) (by decide), slot_other (d := 79) (d' := 73) (by decide), slot_other (d := 79) (d' := 78) (by decide), h13]
 rw [hm, h13] at h
 exact RaceG.push19 h h25 ho hg
theorem G12.set22 (h : G12 w0 r v1 v2 xs bs y m a w) (hm : m.testBit 22 = false) (h13 : m.testBit 13 = true) (h19 : m.testBit 19 = true) {x : Value} (hs : a.tmps[73]? = some x) : G12 w0 r v1 v2 xs bs y (m ||| 2 ^ 22) a (w.setCell ⟨r, 0, none⟩ x) := by
 unfold G12 at *
 rw [bit_self, bit_other (i := 22) (j := 12) (by decide), bit_other (i := 22) (j := 13) (by decide), bit_other (i := 22) (j := 18) (by decide), bit_other (i := 22) (j := 19) (by decide), bit_other (i := 22) (j := 25) (by decide), h13, h19]
 rw [hm, h13, h19] at h
 exact RaceG.set22 h hs
theorem G12.set25 (h : G12 w0 r v1 v2 xs bs y m a w) (hm : m.testBit 25 = false) (h13 : m.testBit 13 = true) (h19 : m.testBit 19 = true) (h22 : m.testBit 22 = true) {x : Value} (hs : a.tmps[79]? = some x) : G12 w0 r v1 v2 xs bs y (m ||| 2 ^ 25) a (w.setCell ⟨r, 1, none⟩ x) := by
 unfold G12 at *
 rw [bit_self, bit_other (i := 25) (j := 12) (by decide), bit_other (i := 25) (j := 13) (by decide), bit_other (i := 25) (j := 18) (by decide), bit_other (i := 25) (j := 19) (by decide), bit_other (i := 25) (j := 22) (by decide), h13, h19, h22]
 rw [hm, h13, h19, h22] at h
 exact RaceG.set25 h hs
end
noncomputable def qg12_rows (r : Nat) (v1 v2 : Value) (bl ol n cl k : Nat) (x l : Int) : List SRow := [
 ⟨Op.move (Operand.tmp 11), some 60, none, [], fun v _ => v = .pointer (some ⟨r, 0, none⟩)⟩,
 ⟨Op.move (Operand.tmp 11), some 61, none, [], fun v _ => v = .pointer (some ⟨r, 0, none⟩)⟩,
 ⟨Op.move (Operand.tmp 11), some 62, none, [], fun v _ => v = .pointer (some ⟨r, 0, none⟩)⟩,
 ⟨Op.nilCheck (Operand.tmp 62), some 63, none, [2], fun v _ => v = .pointer (some ⟨r, 0, none⟩)⟩,
 ⟨Op.fieldAddr 88 (Operand.tmp 63) 0, some 64, none, [3], fun v _ => v = .pointer (some ⟨r, 0, none⟩)⟩,
 ⟨Op.load 85 (Operand.tmp 64), some 65, none, [4], fun v _ => v = v1⟩,
 ⟨Op.move (Operand.tmp 13), some 66, none, [], fun v _ => v = .int .i64 x⟩,
 ⟨Op.move (Operand.tmp 3), some 67, none, [], fun v _ => v = .slice (some ⟨bl, ol, none⟩) n cl⟩,
 ⟨Op.move (Operand.tmp 12), some 68, none, [], fun v _ => v = .int .i64 (k : Int)⟩,
 ⟨Op.indexAddr 29 (Operand.tmp 67) (Operand.tmp 68), some 69, none, [7, 8], fun v _ => v = .pointer (some ⟨bl, ol + k, none⟩)⟩,
 ⟨Op.load 3 (Operand.tmp 69), some 70, none, [9], fun v _ => v = .int .i64 l⟩,
 ⟨Op.build 90 #[(0, Operand.tmp 66), (1, Operand.tmp 70)], some 71, none, [6, 10], fun v _ => v = .agg #[.int .i64 x, .int .i64 l]⟩,
 ⟨Op.buildSlice 85 1 #[(0, Operand.tmp 71)], some 72, none, [11], fun _ _ => True⟩,
 ⟨Op.call { callee := Callee.builtin Builtin.append, args := #[Operand.tmp 65, Operand.tmp 72], argTypes := #[85, 85] }, some 73, none, [5, 12], fun _ _ => True⟩,
 ⟨Op.move (Operand.tmp 11), some 74, none, [], fun v _ => v = .pointer (some ⟨r, 0, none⟩)⟩,
 ⟨Op.nilCheck (Operand.tmp 74), some 75, none, [14], fun v _ => v = .pointer (some ⟨r, 0, none⟩)⟩,
 ⟨Op.fieldAddr 88 (Operand.tmp 75) 1, some 76, none, [15], fun v _ => v = .pointer (some ⟨r, 1, none⟩)⟩,
 ⟨Op.load 86 (Operand.tmp 76), some 77, none, [16], fun v _ => v = v2⟩,
 ⟨Op.buildSlice 86 1 #[(0, Operand.const (Value.bool true))], some 78, none, [], fun _ _ => True⟩,
 ⟨Op.call { callee := Callee.builtin Builtin.append, args := #[Operand.tmp 77, Operand.tmp 78], argTypes := #[86, 86] }, some 79, none, [17, 18, 13], fun _ _ => True⟩,
 ⟨Op.nilCheck (Operand.tmp 60), some 80, none, [0, 0, 2, 3, 4, 5, 6, 7, 8, 9, 10, 11, 12, 13, 17, 19], fun v _ => v = .pointer (some ⟨r, 0, none⟩)⟩,
 ⟨Op.fieldAddr 88 (Operand.tmp 80) 0, some 81, none, [20, 0, 2, 3, 4, 5, 6, 7, 8, 9, 10, 11, 12, 13, 17, 19], fun v _ => v = .pointer (some ⟨r, 0, none⟩)⟩,
 ⟨Op.store 85 (Operand.tmp 81) (Operand.tmp 73), none, none, [21, 13, 19, 0, 2, 3, 4, 5, 6, 7, 8, 9, 10, 11, 12, 13, 17, 19], fun _ _ => True⟩,
 ⟨Op.nilCheck (Operand.tmp 61), some 82, none, [1, 0, 1, 2, 3, 4, 5, 6, 7, 8, 9, 10, 11, 12, 13, 14, 15, 16, 17, 18, 19, 20, 21, 22], fun v _ => v = .pointer (some ⟨r, 0, none⟩)⟩,
 ⟨Op.fieldAddr 88 (Operand.tmp 82) 1, some 83, none, [23, 0, 1, 2, 3, 4, 5, 6, 7, 8, 9, 10, 11, 12, 13, 14, 15, 16, 17, 18, 19, 20, 21, 22], fun v _ => v = .pointer (some ⟨r, 1, none⟩)⟩,
 ⟨Op.store 86 (Operand.tmp 83) (Operand.tmp 79), none, none, [24, 19, 22, 0, 1, 2, 3, 4, 5, 6, 7, 8, 9, 10, 11, 12, 13, 14, 15, 16, 17, 18, 19, 20, 21, 22], fun _ _ => True⟩]
noncomputable def qg12_base (r : Nat) (v1 v2 : Value) (bl ol n cl k : Nat) (x l : Int) (u0 u1 u2 u4 u5 u6 u7 u8 u9 u10 u14 u15 u16 u17 u18 u19 u20 u21 u22 u23 u24 u25 u26 u27 u28 u29 u30 u31 u32 u33 u34 u35 u36 u37 u38 u39 u40 u41 u42 u43 u44 u45 u46 u47 u48 u49 u50 u51 u52 u53 u54 u55 u56 u57 u58 u59 u84 u85 u86 u87 u88 u89 u90 u91 u92 u93 u94 u95 u96 u97 u98 u99 u100 u101 u102 u103 u104 u105 u106 u107 u108 u109 u110 u111 u112 u113 u114 u115 u116 u117 u118 u119 u120 u121 u122 u123 u124 u125 u126 u127 u128 u129 u130 u131 u132 u133 u134 u135 u136 u137 u138 u139 u140 : Value) : List (Nat × Value) := [(3, .slice (some ⟨bl, ol, none⟩) n cl), (11, .pointer (some ⟨r, 0, none⟩)), (12, .int .i64 (k : Int)), (13, .int .i64 x), (0, u0), (1, u1), (2, u2), (4, u4), (5, u5), (6, u6), (7, u7), (8, u8), (9, u9), (10, u10), (14, u14), (15, u15), (16, u16), (17, u17), (18, u18), (19, u19), (20, u20), (21, u21), (22, u22), (23, u23), (24, u24), (25, u25), (26, u26), (27, u27), (28, u28), (29, u29), (30, u30), (31, u31), (32, u32), (33, u33), (34, u34), (35, u35), (36, u36), (37, u37), (38, u38), (39, u39), (40, u40), (41, u41), (42, u42), (43, u43), (44, u44), (45, u45), (46, u46), (47, u47), (48, u48), (49, u49), (50, u50), (51, u51), (52, u52), (53, u53), (54, u54), (55, u55), (56, u56), (57, u57), (58, u58), (59, u59), (84, u84), (85, u85), (86, u86), (87, u87), (88, u88), (89, u89), (90, u90), (91, u91), (92, u92), (93, u93), (94, u94), (95, u95), (96, u96), (97, u97), (98, u98), (99, u99), (100, u100), (101, u101), (102, u102), (103, u103), (104, u104), (105, u105), (106, u106), (107, u107), (108, u108), (109, u109), (110, u110), (111, u111), (112, u112), (113, u113), (114, u114), (115, u115), (116, u116), (117, u117), (118, u118), (119, u119), (120, u120), (121, u121), (122, u122), (123, u123), (124, u124), (125, u125), (126, u126), (127, u127), (128, u128), (129, u129), (130, u130), (131, u131), (132, u132), (133, u133), (134, u134), (135, u135), (136, u136), (137, u137), (138, u138), (139, u139), (140, u140)]
set_option maxRecDepth 100000 in
set_option maxHeartbeats 4000000 in
theorem qg12_steps (w0 : World) (r : Nat) (v1 v2 : Value) (bl ol n cl k : Nat) (x l : Int) (u0 u1 u2 u4 u5 u6 u7 u8 u9 u10 u14 u15 u16 u17 u18 u19 u20 u21 u22 u23 u24 u25 u26 u27 u28 u29 u30 u31 u32 u33 u34 u35 u36 u37 u38 u39 u40 u41 u42 u43 u44 u45 u46 u47 u48 u49 u50 u51 u52 u53 u54 u55 u56 u57 u58 u59 u84 u85 u86 u87 u88 u89 u90 u91 u92 u93 u94 u95 u96 u97 u98 u99 u100 u101 u102 u103 u104 u105 u106 u107 u108 u109 u110 u111 u112 u113 u114 u115 u116 u117 u118 u119 u120 u121 u122 u123 u124 u125 u126 u127 u128 u129 u130 u131 u132 u133 u134 u135 u136 u137 u138 u139 u140 : Value) (xs bs : List (List Value)) (hlx : xs.length ≤ 100000000) (hlb : bs.length ≤ 100000000) (hk : (k : Int) < (n : Int)) (HL : ∀ w', Lat w0 w' → w'.cell? ⟨bl, ol + k, none⟩ = some (.int .i64 l)) :
  AllStepsH Tryz.prog (qg12_rows r v1 v2 bl ol n cl k x l) (qg12_base r v1 v2 bl ol n cl k x l u0 u1 u2 u4 u5 u6 u7 u8 u9 u10 u14 u15 u16 u17 u18 u19 u20 u21 u22 u23 u24 u25 u26 u27 u28 u29 u30 u31 u32 u33 u34 u35 u36 u37 u38 u39 u40 u41 u42 u43 u44 u45 u46 u47 u48 u49 u50 u51 u52 u53 u54 u55 u56 u57 u58 u59 u84 u85 u86 u87 u88 u89 u90 u91 u92 u93 u94 u95 u96 u97 u98 u99 u100 u101 u102 u103 u104 u105 u106 u107 u108 u109 u110 u111 u112 u113 u114 u115 u116 u117 u118 u119 u120 u121 u122 u123 u124 u125 u126 u127 u128 u129 u130 u131 u132 u133 u134 u135 u136 u137 u138 u139 u140) 141 qg12_tbl (G12 w0 r v1 v2 xs bs [.int .i64 x, .int .i64 l]) 0 (qg12_rows r v1 v2 bl ol n cl k x l) := by
 refine AllStepsH.next (fun _ _ _ h => h) (fun j b h => by cases h) (fun m a w hG hsz hmi hdp hcl hb hd o ho => by have e1 := hb 11 _ rfl; obtain ⟨d, op, ty, p, af, g⟩ := o; simp only at ho; subst ho; have ec : ∀ v, a.eval (.const v) = v := fun _ => rfl; exact .inl <| Runs.val (by unfold execOp; generalize a.eval = ev at e1 ec ⊢; simp only [e1, ec]; go_simp) ⟨fun _ => rfl, G12.pure hG (by decide) (by decide)⟩) ?_
 refine AllStepsH.next (fun _ _ _ h => h) (fun j b h => by cases h) (fun m a w hG hsz hmi hdp hcl hb hd o ho => by have e1 := hb 11 _ rfl; obtain ⟨d, op, ty, p, af, g⟩ := o; simp only at ho; subst ho; have ec : ∀ v, a.eval (.const v) = v := fun _ => rfl; exact .inl <| Runs.val (by unfold execOp; generalize a.eval = ev at e1 ec ⊢; simp only [e1, ec]; go_simp) ⟨fun _ => rfl, G12.pure hG (by decide) (by decide)⟩) ?_
 refine AllStepsH.next (fun _ _ _ h => h) (fun j b h => by cases h) (fun m a w hG hsz hmi hdp hcl hb hd o ho => by have e1 := hb 11 _ rfl; obtain ⟨d, op, ty, p, af, g⟩ := o; simp only at ho; subst ho; have ec : ∀ v, a.eval (.const v) = v := fun _ => rfl; exact .inl <| Runs.val (by unfold execOp; generalize a.eval = ev at e1 ec ⊢; simp only [e1, ec]; go_simp) ⟨fun _ => rfl, G12.pure hG (by decide) (by decide)⟩) ?_
 refine AllStepsH.next (fun _ _ _ h => h) (fun j b h => by cases h) (fun m a w hG hsz hmi hdp hcl hb hd o ho => by obtain ⟨z1, s1, q1⟩ := hd 2 _ _ (by simp) rfl rfl; have e1 := s1.ev.trans q1; obtain ⟨d, op, ty, p, af, g⟩ := o; simp only at ho; subst ho; have ec : ∀ v, a.eval (.const v) = v := fun _ => rfl; exact .inl <| Runs.val (by unfold execOp; generalize a.eval = ev at e1 ec ⊢; simp only [e1, ec]; go_simp) ⟨fun _ => rfl, G12.pure hG (by decide) (by decide)⟩) ?_
 refine AllStepsH.next (fun _ _ _ h => h) (fun j b h => by cases h) (fun m a w hG hsz hmi hdp hcl hb hd o ho => by obtain ⟨z1, s1, q1⟩ := hd 3 _ _ (by simp) rfl rfl; have e1 := s1.ev.trans q1; obtain ⟨d, op, ty, p, af, g⟩ := o; simp only at ho; subst ho; have ec : ∀ v, a.eval (.const v) = v := fun _ => rfl; exact .inl <| Runs.val (by unfold execOp; generalize a.eval = ev at e1 ec ⊢; simp only [e1, ec]; go_simp) ⟨fun _ => rfl, G12.pure hG (by decide) (by decide)⟩) ?_
 refine AllStepsH.next (fun _ _ _ h => h) (fun j b h => by cases h) (fun m a w hG hsz hmi hdp hcl hb hd o ho => by obtain ⟨z1, s1, q1⟩ := hd 4 _ _ (by simp) rfl rfl; have e1 := s1.ev.trans q1; have h22 : m.testBit 22 = false := (by cases hq : m.testBit 22 with | false => rfl | true => exact Bool.noConfusion (hmi.symm.trans (hcl 22 hq 5 (by decide)))); have hc := hG.c1 h22; obtain ⟨d, op, ty, p, af, g⟩ := o; simp only at ho; subst ho; have ec : ∀ v, a.eval (.const v) = v := fun _ => rfl; exact .inl <| Runs.val (by unfold execOp; generalize a.eval = ev at e1 ec ⊢; simp only [e1, ec]; go_simp) ⟨fun _ => rfl, G12.pure hG (by decide) (by decide)⟩) ?_
 refine AllStepsH.next (fun _ _ _ h => h) (fun j b h => by cases h) (fun m a w hG hsz hmi hdp hcl hb hd o ho => by have e1 := hb 13 _ rfl; obtain ⟨d, op, ty, p, af, g⟩ := o; simp only at ho; subst ho; have ec : ∀ v, a.eval (.const v) = v := fun _ => rfl; exact .inl <| Runs.val (by unfold execOp; generalize a.eval = ev at e1 ec ⊢; simp only [e1, ec]; go_simp) ⟨fun _ => rfl, G12.pure hG (by decide) (by decide)⟩) ?_
 refine AllStepsH.next (fun _ _ _ h => h) (fun j b h => by cases h) (fun m a w hG hsz hmi hdp hcl hb hd o ho => by have e1 := hb 3 _ rfl; obtain ⟨d, op, ty, p, af, g⟩ := o; simp only at ho; subst ho; have ec : ∀ v, a.eval (.const v) = v := fun _ => rfl; exact .inl <| Runs.val (by unfold execOp; generalize a.eval = ev at e1 ec ⊢; simp only [e1, ec]; go_simp) ⟨fun _ => rfl, G12.pure hG (by decide) (by decide)⟩) ?_
 refine AllStepsH.next (fun _ _ _ h => h) (fun j b h => by cases h) (fun m a w hG hsz hmi hdp hcl hb hd o ho => by have e1 := hb 12 _ rfl; obtain ⟨d, op, ty, p, af, g⟩ := o; simp only at ho; subst ho; have ec : ∀ v, a.eval (.const v) = v := fun _ => rfl; exact .inl <| Runs.val (by unfold execOp; generalize a.eval = ev at e1 ec ⊢; simp only [e1, ec]; go_simp) ⟨fun _ => rfl, G12.pure hG (by decide) (by decide)⟩) ?_
 refine AllStepsH.next (fun _ _ _ h => h) (fun j b h => by cases h) (fun m a w hG hsz hmi hdp hcl hb hd o ho => by obtain ⟨z1, s1, q1⟩ := hd 7 _ _ (by simp) rfl rfl; have e1 := s1.ev.trans q1; obtain ⟨z2, s2, q2⟩ := hd 8 _ _ (by simp) rfl rfl; have e2 := s2.ev.trans q2; obtain ⟨d, op, ty, p, af, g⟩ := o; simp only at ho; subst ho; have ec : ∀ v, a.eval (.const v) = v := fun _ => rfl; exact .inl <| Runs.val (by unfold execOp; generalize a.eval = ev at e1 e2 ec ⊢; simp only [e1, e2, ec]; go_simp) ⟨fun _ => rfl, G12.pure hG (by decide) (by decide)⟩) ?_
 refine AllStepsH.next (fun _ _ _ h => h) (fun j b h => by cases h) (fun m a w hG hsz hmi hdp hcl hb hd o ho => by obtain ⟨z1, s1, q1⟩ := hd 9 _ _ (by simp) rfl rfl; have e1 := s1.ev.trans q1; have hc := HL w hG.lat; obtain ⟨d, op, ty, p, af, g⟩ := o; simp only at ho; subst ho; have ec : ∀ v, a.eval (.const v) = v := fun _ => rfl; exact .inl <| Runs.val (by unfold execOp; generalize a.eval = ev at e1 ec ⊢; simp only [e1, ec]; go_simp) ⟨fun _ => rfl, G12.pure hG (by decide) (by decide)⟩) ?_
 refine AllStepsH.next (fun _ _ _ h => h) (fun j b h => by cases h) (fun m a w hG hsz hmi hdp hcl hb hd o ho => by obtain ⟨z1, s1, q1⟩ := hd 6 _ _ (by simp) rfl rfl; have e1 := s1.ev.trans q1; obtain ⟨z2, s2, q2⟩ := hd 10 _ _ (by simp) rfl rfl; have e2 := s2.ev.trans q2; obtain ⟨d, op, ty, p, af, g⟩ := o; simp only at ho; subst ho; have ec : ∀ v, a.eval (.const v) = v := fun _ => rfl; exact .inl <| Runs.val (by unfold execOp; generalize a.eval = ev at e1 e2 ec ⊢; simp only [e1, e2, ec]; go_simp) ⟨fun _ => rfl, G12.pure hG (by decide) (by decide)⟩) ?_
 refine AllStepsH.next (fun _ _ _ _ => trivial) (fun j b h => by cases h) (fun m a w hG hsz hmi hdp hcl hb hd o ho => by obtain ⟨z1, s1, q1⟩ := hd 11 _ _ (by simp) rfl rfl; have e1 := s1.ev.trans q1; have hrun : (execOp a.eval o).run Tryz.prog w = .ok (.value (.slice (some ⟨w.heap.size, 0, none⟩) 1 1)) (w.alloc (.cells #[.int .i64 x, .int .i64 l] 90)) := (by obtain ⟨d, op, ty, p, af, g⟩ := o; simp only at ho; subst ho; have ec : ∀ v, a.eval (.const v) = v := fun _ => rfl; unfold execOp; generalize a.eval = ev at e1 ec ⊢; simp only [e1, ec]; go_simp); exact .inl <| Runs.new hrun ⟨fun _ => trivial, hG.alloc12 hmi (by rw [hsz]; decide)⟩) ?_
 refine AllStepsH.next (fun _ _ _ _ => trivial) (fun j b h => by cases h) (fun m a w hG hsz hmi hdp hcl hb hd o ho => by obtain ⟨z1, s1, q1⟩ := hd 5 _ _ (by simp) rfl rfl; have e1 := s1.ev.trans q1; obtain ⟨z2, s2, q2⟩ := hd 12 _ _ (by simp) rfl rfl; have e2 := s2.ev; have h22 : m.testBit 22 = false := (by cases hq : m.testBit 22 with | false => rfl | true => exact Bool.noConfusion (hmi.symm.trans (hcl 22 hq 13 (by decide)))); have h12 := hdp 12 (by simp); obtain ⟨g, hg1, hg2⟩ := RaceG.o72 hG h12 hmi; obtain rfl : z2 = _ := Option.some.inj (s2.symm.trans hg1); exact .inl <| runs_pushM _ _ 85 ho w0.heap.size 90 90 _ 2 16 Tryz.underlying85 regInfo rfl (by decide) (by decide) v1 xs [.int .i64 x, .int .i64 l] (by simp [Value.oneCell']) g e1 (RaceG.p0 hG hmi) hg2 rfl 1 e2 hlx (Nat.le_trans (Nat.le_refl _) hG.lat.size) (fun v' w' ho' hgr => ⟨fun _ => trivial, hG.push13 hmi h22 (by rw [hsz]; decide) ho' hgr⟩)) ?_
 refine AllStepsH.next (fun _ _ _ h => h) (fun j b h => by cases h) (fun m a w hG hsz hmi hdp hcl hb hd o ho => by have e1 := hb 11 _ rfl; obtain ⟨d, op, ty, p, af, g⟩ := o; simp only at ho; subst ho; have ec : ∀ v, a.eval (.const v) = v := fun _ => rfl; exact .inl <| Runs.val (by unfold execOp; generalize a.eval = ev at e1 ec ⊢; simp only [e1, ec]; go_simp) ⟨fun _ => rfl, G12.pure hG (by decide) (by decide)⟩) ?_
 refine AllStepsH.next (fun _ _ _ h => h) (fun j b h => by cases h) (fun m a w hG hsz hmi hdp hcl hb hd o ho => by obtain ⟨z1, s1, q1⟩ := hd 14 _ _ (by simp) rfl rfl; have e1 := s1.ev.trans q1; obtain ⟨d, op, ty, p, af, g⟩ := o; simp only at ho; subst ho; have ec : ∀ v, a.eval (.const v) = v := fun _ => rfl; exact .inl <| Runs.val (by unfold execOp; generalize a.eval = ev at e1 ec ⊢; simp only [e1, ec]; go_simp) ⟨fun _ => rfl, G12.pure hG (by decide) (by decide)⟩) ?_
 refine AllStepsH.next (fun _ _ _ h => h) (fun j b h => by cases h) (fun m a w hG hsz hmi hdp hcl hb hd o ho => by obtain ⟨z1, s1, q1⟩ := hd 15 _ _ (by simp) rfl rfl; have e1 := s1.ev.trans q1; obtain ⟨d, op, ty, p, af, g⟩ := o; simp only at ho; subst ho; have ec : ∀ v, a.eval (.const v) = v := fun _ => rfl; exact .inl <| Runs.val (by unfold execOp; generalize a.eval = ev at e1 ec ⊢; simp only [e1, ec]; go_simp) ⟨fun _ => rfl, G12.pure hG (by decide) (by decide)⟩) ?_
 refine AllStepsH.next (fun _ _ _ h => h) (fun j b h => by cases h) (fun m a w hG hsz hmi hdp hcl hb hd o ho => by obtain ⟨z1, s1, q1⟩ := hd 16 _ _ (by simp) rfl rfl; have e1 := s1.ev.trans q1; have h25 : m.testBit 25 = false := (by cases hq : m.testBit 25 with | false => rfl | true => exact Bool.noConfusion (hmi.symm.trans (hcl 25 hq 17 (by decide)))); have hc := hG.c2 h25; obtain ⟨d, op, ty, p, af, g⟩ := o; simp only at ho; subst ho; have ec : ∀ v, a.eval (.const v) = v := fun _ => rfl; exact .inl <| Runs.val (by unfold execOp; generalize a.eval = ev at e1 ec ⊢; simp only [e1, ec]; go_simp) ⟨fun _ => rfl, G12.pure hG (by decide) (by decide)⟩) ?_
 refine AllStepsH.next (fun _ _ _ _ => trivial) (fun j b h => by cases h) (fun m a w hG hsz hmi hdp hcl hb hd o ho => by have hrun : (execOp a.eval o).run Tryz.prog w = .ok (.value (.slice (some ⟨w.heap.size, 0, none⟩) 1 1)) (w.alloc (.cells #[.bool true] 4)) := (by obtain ⟨d, op, ty, p, af, g⟩ := o; simp only at ho; subst ho; have ec : ∀ v, a.eval (.const v) = v := fun _ => rfl; unfold execOp; generalize a.eval = ev at ec ⊢; simp only [ec]; go_simp); exact .inl <| Runs.new hrun ⟨fun _ => trivial, hG.alloc18 hmi (by rw [hsz]; decide)⟩) ?_
 refine AllStepsH.next (fun _ _ _ _ => trivial) (fun j b h => by cases h) (fun m a w hG hsz hmi hdp hcl hb hd o ho => by obtain ⟨z1, s1, q1⟩ := hd 17 _ _ (by simp) rfl rfl; have e1 := s1.ev.trans q1; obtain ⟨z2, s2, q2⟩ := hd 18 _ _ (by simp) rfl rfl; have e2 := s2.ev; have h25 : m.testBit 25 = false := (by cases hq : m.testBit 25 with | false => rfl | true => exact Bool.noConfusion (hmi.symm.trans (hcl 25 hq 19 (by decide)))); have h18 := hdp 18 (by simp); have h13 := hdp 13 (by simp); obtain ⟨g, hg1, hg2⟩ := RaceG.o78 hG h18 hmi; obtain rfl : z2 = _ := Option.some.inj (s2.symm.trans hg1); exact .inl <| runs_pushM _ _ 86 ho w0.heap.size 4 4 _ 1 1 Tryz.underlying86 boolInfo rfl (by decide) (by decide) v2 bs [.bool true] (by simp [Value.oneCell']) g e1 (RaceG.q0 hG hmi) hg2 rfl 1 e2 hlb hG.lat.size (fun v' w' ho' hgr => ⟨fun _ => trivial, hG.push19 hmi h13 h25 (by rw [hsz]; decide) ho' hgr⟩)) ?_
 refine AllStepsH.next (fun _ _ _ h => h) (fun j b h => by cases h) (fun m a w hG hsz hmi hdp hcl hb hd o ho => by obtain ⟨z1, s1, q1⟩ := hd 0 _ _ (by simp) rfl rfl; have e1 := s1.ev.trans q1; obtain ⟨d, op, ty, p, af, g⟩ := o; simp only at ho; subst ho; have ec : ∀ v, a.eval (.const v) = v := fun _ => rfl; exact .inl <| Runs.val (by unfold execOp; generalize a.eval = ev at e1 ec ⊢; simp only [e1, ec]; go_simp) ⟨fun _ => rfl, G12.pure hG (by decide) (by decide)⟩) ?_
 refine AllStepsH.next (fun _ _ _ h => h) (fun j b h => by cases h) (fun m a w hG hsz hmi hdp hcl hb hd o ho => by obtain ⟨z1, s1, q1⟩ := hd 20 _ _ (by simp) rfl rfl; have e1 := s1.ev.trans q1; obtain ⟨d, op, ty, p, af, g⟩ := o; simp only at ho; subst ho; have ec : ∀ v, a.eval (.const v) = v := fun _ => rfl; exact .inl <| Runs.val (by unfold execOp; generalize a.eval = ev at e1 ec ⊢; simp only [e1, ec]; go_simp) ⟨fun _ => rfl, G12.pure hG (by decide) (by decide)⟩) ?_
 refine AllStepsH.next (fun _ _ _ _ => trivial) (fun j b h => by cases h) (fun m a w hG hsz hmi hdp hcl hb hd o ho => by obtain ⟨z1, s1, q1⟩ := hd 21 _ _ (by simp) rfl rfl; have e1 := s1.ev.trans q1; obtain ⟨z2, s2, q2⟩ := hd 13 _ _ (by simp) rfl rfl; have e2 := s2.ev; have h13 := hdp 13 (by simp); have h19 := hdp 19 (by simp); obtain ⟨v', hv1, hv2⟩ := RaceG.p1 hG h13; obtain rfl : z2 = v' := Option.some.inj (s2.symm.trans hv1); obtain ⟨At, ct, hz2, _⟩ := hv2.form; subst hz2; obtain ⟨⟨u9, cc⟩, cf⟩ := hG.there 0 (by decide); exact .inr ⟨w.setCell ⟨r, 0, none⟩ (.slice At (xs ++ [([Value.int .i64 x, Value.int .i64 l])]).length ct), (by obtain ⟨d, op, ty, p, af, g⟩ := o; simp only at ho; subst ho; have ec : ∀ v, a.eval (.const v) = v := fun _ => rfl; unfold execOp; generalize a.eval = ev at e1 e2 ec ⊢; simp only [e1, e2, ec]; go_simp), rfl, hG.set22 hmi h13 h19 s2⟩) ?_
 refine AllStepsH.next (fun _ _ _ h => h) (fun j b h => by cases h) (fun m a w hG hsz hmi hdp hcl hb hd o ho => by obtain ⟨z1, s1, q1⟩ := hd 1 _ _ (by simp) rfl rfl; have e1 := s1.ev.trans q1; obtain ⟨d, op, ty, p, af, g⟩ := o; simp only at ho; subst ho; have ec : ∀ v, a.eval (.const v) = v := fun _ => rfl; exact .inl <| Runs.val (by unfold execOp; generalize a.eval = ev at e1 ec ⊢; simp only [e1, ec]; go_simp) ⟨fun _ => rfl, G12.pure hG (by decide) (by decide)⟩) ?_
 refine AllStepsH.next (fun _ _ _ h => h) (fun j b h => by cases h) (fun m a w hG hsz hmi hdp hcl hb hd o ho => by obtain ⟨z1, s1, q1⟩ := hd 23 _ _ (by simp) rfl rfl; have e1 := s1.ev.trans q1; obtain ⟨d, op, ty, p, af, g⟩ := o; simp only at ho; subst ho; have ec : ∀ v, a.eval (.const v) = v := fun _ => rfl; exact .inl <| Runs.val (by unfold execOp; generalize a.eval = ev at e1 ec ⊢; simp only [e1, ec]; go_simp) ⟨fun _ => rfl, G12.pure hG (by decide) (by decide)⟩) ?_
 refine AllStepsH.next (fun _ _ _ _ => trivial) (fun j b h => by cases h) (fun m a w hG hsz hmi hdp hcl hb hd o ho => by obtain ⟨z1, s1, q1⟩ := hd 24 _ _ (by simp) rfl rfl; have e1 := s1.ev.trans q1; obtain ⟨z2, s2, q2⟩ := hd 19 _ _ (by simp) rfl rfl; have e2 := s2.ev; have h13 := hdp 13 (by simp); have h19 := hdp 19 (by simp); obtain ⟨v', hv1, hv2⟩ := RaceG.q1 hG h19; obtain rfl : z2 = v' := Option.some.inj (s2.symm.trans hv1); obtain ⟨At, ct, hz2, _⟩ := hv2.form; subst hz2; obtain ⟨⟨u9, cc⟩, cf⟩ := hG.there 1 (by decide); exact .inr ⟨w.setCell ⟨r, 1, none⟩ (.slice At (bs ++ [([Value.bool true])]).length ct), (by obtain ⟨d, op, ty, p, af, g⟩ := o; simp only at ho; subst ho; have ec : ∀ v, a.eval (.const v) = v := fun _ => rfl; unfold execOp; generalize a.eval = ev at e1 e2 ec ⊢; simp only [e1, e2, ec]; go_simp), rfl, hG.set25 hmi h13 h19 (hdp 22 (by simp)) s2⟩) ?_
 exact AllStepsH.none
end Go.Proofs.YteocdndanehpnaaGreat
