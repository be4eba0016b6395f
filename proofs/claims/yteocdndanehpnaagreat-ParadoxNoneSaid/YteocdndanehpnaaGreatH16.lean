/- Several texts in one: Cells, Award, Best. -/
import Derived.Test.YteocdndanehpnaaGreatH01
import Derived.Deep.AppendLies
import Derived.Test.YteocdndanehpnaaGreatProg
namespace Go.Proofs.YteocdndanehpnaaGreat
open Go.RowKit
def Row (w : World) (A : Option Addr) (n : Nat) (xs : List Value) : Prop :=
 xs.length = n ∧ (0 < n → ∃ a, A = some a ∧ a.block < w.heap.size ∧ ∀ (i : Nat) (x : Value), xs[i]? = some x → w.cell? (a.add i) = some x)
section
variable {w W : World} {A : Option Addr} {n : Nat} {xs : List Value}
theorem Row.later (h : Row W A n xs) (hl : Lat W w) : Row w A n xs :=
 ⟨h.1, fun hn => by
  obtain ⟨a, e, hb, hc⟩ := h.2 hn
  exact ⟨a, e, Nat.lt_of_lt_of_le hb hl.size, fun i x hx => hl.cell (by rw [block_add]; exact hb) (hc i x hx)⟩⟩
theorem Row.nil (w : World) (A : Option Addr) : Row w A 0 [] := ⟨rfl, fun h => absurd h (by omega)⟩
theorem Row.at (h : Row w A n xs) {i : Nat} (hi : i < n) : ∃ a x, A = some a ∧ a.block < w.heap.size ∧ xs[i]? = some x ∧ w.cell? (a.add i) = some x := by
 obtain ⟨a, e, hb, hc⟩ := h.2 (by omega)
 have hl : i < xs.length := by have := h.1; omega
 exact ⟨a, xs[i], e, hb, List.getElem?_eq_getElem hl, hc i _ (List.getElem?_eq_getElem hl)⟩
theorem Row.kept (h : Row W A n xs) (hs : W.heap.size ≤ w.heap.size) (hk : ∀ a, A = some a → w.heap[a.block]? = W.heap[a.block]?) : Row w A n xs := by
 refine ⟨h.1, fun hn => ?_⟩
 obtain ⟨a, e, hlt, hc⟩ := h.2 hn
 refine ⟨a, e, Nat.lt_of_lt_of_le hlt hs, fun j x hx => ?_⟩
 rw [← hc j x hx]
 exact World.cell?_of_block (by rw [block_add]; exact hk a e)
end
def OwnV (w : World) (B : Nat) (E : TypeId) (v : Value) (xs : List Value) : Prop := w.ownsRow B E 1 v xs.length xs
section
variable {w w' : World} {B : Nat} {E : TypeId} {v : Value} {xs : List Value}
theorem OwnV.nil (w : World) (B : Nat) (E : TypeId) : OwnV w B E (.slice none 0 0) [] := World.ownsRow_nil _ _ _ _
theorem OwnV.later (h : OwnV w B E v xs) (hl : Lat w w') : OwnV w' B E v xs := by
 obtain ⟨h1, h2⟩ := h
 refine ⟨h1, ?_⟩
 rcases h2 with h2 | ⟨g, cap, cur, a1, a2, a3, a4⟩
 ·exact .inl h2
 ·refine .inr ⟨g, cap, cur, a1, a2, ?_, a4⟩
  have hlt : g < w.heap.size := by
   rcases Nat.lt_or_ge g w.heap.size with hlt | hge
   ·exact hlt
   ·rw [Array.getElem?_eq_none hge] at a3; cases a3
  rw [Below.block hl g hlt]; exact a3
theorem OwnV.kept (h : OwnV w B E v xs) (hk : ∀ g, v.ownBlock = some g → w'.heap[g]? = w.heap[g]?) : OwnV w' B E v xs := by
 obtain ⟨h1, h2⟩ := h
 refine ⟨h1, ?_⟩
 rcases h2 with h2 | ⟨g, cap, cur, a1, a2, a3, a4⟩
 ·exact .inl h2
 ·refine .inr ⟨g, cap, cur, a1, a2, ?_, a4⟩
  rw [hk g (by rw [a1]; rfl)]; exact a3
theorem OwnV.form (h : OwnV w B E v xs) : ∃ A c, v = .slice A xs.length c ∧ Row w A xs.length xs ∧ xs.length ≤ c ∧ ∀ a, A = some a → B ≤ a.block ∧ a.block < w.heap.size := by
 obtain ⟨h1, h2⟩ := h
 rcases h2 with ⟨rfl, h0⟩ | ⟨g, cap, cur, rfl, hb, hg, hnc, _, hcs, ht⟩
 ·refine ⟨none, 0, by rw [h0], ?_, by omega, fun a e => by cases e⟩
  have : xs = [] := List.eq_nil_of_length_eq_zero h0
  subst this
  exact Row.nil _ _
 ·have hlt : g < w.heap.size := by
   rcases Nat.lt_or_ge g w.heap.size with hlt | hge
   ·exact hlt
   ·rw [Array.getElem?_eq_none hge] at hg; cases hg
  refine ⟨_, cap, rfl, ⟨rfl, fun hn => ⟨_, rfl, hlt, fun i x hx => ?_⟩⟩, hnc, fun a e => by cases e; exact ⟨hb, hlt⟩⟩
  have e : (⟨g, 0, none⟩ : Addr).add i = ⟨g, i, none⟩ := by unfold Addr.add; split <;> simp_all
  rw [e, cell_of_row w g i cur E (0, 0) hg]
  have hi : xs[i]? = some x := by simp [hx]
  rw [← ht, List.getElem?_take] at hi
  split at hi
  ·simpa using hi
  ·cases hi
theorem OwnV.blk {A : Option Addr} {n c : Nat} (h : OwnV w B E (.slice A n c) xs) : ∀ a, A = some a → ∃ cs, Blk w a.block E cs := by
 intro a e
 rcases h.2 with ⟨e', _⟩ | ⟨g, cap, cur, e', _, hg, _⟩
 ·cases e'; cases e
 ·cases e'; cases e; exact ⟨cur, hg⟩
theorem OwnV.cut {A : Option Addr} {n c : Nat} (h : OwnV w B E (.slice A n c) xs) : OwnV w B E (.slice A 0 c) [] := by
 obtain ⟨h1, h2⟩ := h
 refine ⟨rfl, ?_⟩
 rcases h2 with ⟨e, h0⟩ | ⟨g, cap, cur, e, hb, hg, hnc, hm, hcs, ht⟩
 ·cases e
  exact .inl ⟨rfl, rfl⟩
 ·cases e
  exact .inr ⟨g, _, cur, rfl, hb, hg, Nat.zero_le _, hm, hcs, by simp⟩
theorem OwnV.lat {W : World} (h : OwnV w B E v xs) (hl : Lat W w) (hB : W.heap.size ≤ B) (hg : w.grownBy w' v.ownBlock) : Lat W w' :=
 Below.grown hl hg (hl.size) (fun j hj => by
  rcases h.2 with ⟨rfl, _⟩ | ⟨g, cap, cur, rfl, hb, _⟩
  ·cases hj
  ·have : g = j := by simpa [Value.ownBlock] using hj
   omega)
end
theorem step_pushV {P : Program} {ops : Array Oper} {o : Oper} {a : Act} {K : Act → World → Prop} {Q : Exit → Act → World → Prop} {E0 : Prop} (hgd : o.guard = none) (s x : Operand) (t : TypeId)
  (ho : o.op = .call { callee := .builtin .append, args := #[s, x], argTypes := #[t, t] })
  (B : Nat) (E T : TypeId) (z : Value) (by_ : Nat) (ht : P.underlying t = some (.slice E)) (hinfo : (P.info? E).map (fun i => (i.zero, i.size, i.bytes)) = some (some z, 1, by_)) (hz : z.cells.size = 1) (hby : by_ ≤ 8)
  (v : Value) (xs ys : List Value) (hys : ∀ u ∈ ys, u.oneCell' = true) (w : World) (g : Nat) (hs : a.eval s = v) (hown : OwnV w B E v xs) (hb : Blk w g T ys.toArray)
  (m : Nat) (hm : ys.length = m) (hm0 : 0 < m) (hx : a.eval x = .slice (some ⟨g, 0, none⟩) m m) (hlen : xs.length + m ≤ 17000000000000) (hB : B ≤ w.heap.size)
  (h : ∀ v' w', OwnV w' B E v' (xs ++ ys) → w.grownBy w' v.ownBlock → (∀ W0, Lat W0 w → W0.heap.size ≤ B → Lat W0 w') → K (a.put o.dst v') w') :
  if Region.wanted o (yielded ops a.tmps) = true then Oper.wp P o a w K Q else E0 := by
 obtain ⟨i0, hi, hz0, hz1, hz2⟩ := info_parts hinfo
 subst hm
 have hw : Region.wanted o (yielded ops a.tmps) = true := by simp [Region.wanted, hgd]
 rw [if_pos hw]
 refine wp_append_own w s x t ho B E i0 z 1 by_ ht hi hz0 hz1 hz2 hz (by decide) v xs.length _ hs hown ⟨g, 0, none⟩ ys.length ys.length ys hx (by simp) ?_ hys ?_ ?_ hB ?_
 ·intro j u hu
  have e : (⟨g, 0, none⟩ : Addr).add j = ⟨g, j, none⟩ := by unfold Addr.add; split <;> simp_all
  rw [e, hb.cell j]
  simpa using hu
 ·unfold maxLen; omega
 ·have := Nat.mul_le_mul_left (xs.length + ys.length) hby; omega
 ·intro v' w' h1 h2 _
  refine h v' w' ?_ h2 (fun W0 hl hle => OwnV.lat hown hl hle h2)
  unfold OwnV
  rw [List.length_append]
  exact h1
theorem wpList_pushV {P : Program} {ops : Array Oper} {rest : List Oper} {o : Oper} {a : Act} {Q : Exit → Act → World → Prop} (hgd : o.guard = none) (s x : Operand) (t : TypeId)
  (ho : o.op = .call { callee := .builtin .append, args := #[s, x], argTypes := #[t, t] })
  (B : Nat) (E T : TypeId) (z : Value) (by_ : Nat) (ht : P.underlying t = some (.slice E)) (hinfo : (P.info? E).map (fun i => (i.zero, i.size, i.bytes)) = some (some z, 1, by_)) (hz : z.cells.size = 1) (hby : by_ ≤ 8)
  (v : Value) (xs ys : List Value) (hys : ∀ u ∈ ys, u.oneCell' = true) (w : World) (g : Nat) (hs : a.eval s = v) (hown : OwnV w B E v xs) (hb : Blk w g T ys.toArray)
  (m : Nat) (hm : ys.length = m) (hm0 : 0 < m) (hx : a.eval x = .slice (some ⟨g, 0, none⟩) m m) (hlen : xs.length + m ≤ 17000000000000) (hB : B ≤ w.heap.size)
  (h : ∀ v' w', OwnV w' B E v' (xs ++ ys) → w.grownBy w' v.ownBlock → (∀ W0, Lat W0 w → W0.heap.size ≤ B → Lat W0 w') → wpList P ops Q rest (a.put o.dst v') w') : wpList P ops Q (o :: rest) a w := by
 refine wpList_plain hgd fun K hK => ?_
 have := step_pushV (ops := #[]) (K := K) (Q := Q) (E0 := False) hgd s x t ho B E T z by_ ht hinfo hz hby v xs ys hys w g hs hown hb m hm hm0 hx hlen hB (fun v' w' h1 h2 h3 => hK _ _ (h v' w' h1 h2 h3))
 rwa [if_pos (by simp [Region.wanted, hgd])] at this
end Go.Proofs.YteocdndanehpnaaGreat
namespace Go.Proofs.YteocdndanehpnaaGreat
def atI (l : List Int) (i : Nat) : Int := l[i]?.getD 0
theorem atI_of {l : List Int} {i : Nat} {x : Int} (h : l[i]? = some x) : atI l i = x := by rw [atI, h]; rfl
theorem atI_set_same {l : List Int} {i : Nat} {x : Int} (h : i < l.length) : atI (l.set i x) i = x := by simp [atI, h]
theorem atI_set_ne {l : List Int} {i j : Nat} {x : Int} (h : i ≠ j) : atI (l.set i x) j = atI l j := by simp [atI, h]
def pick (c : Nat → Nat → Int) (out : List Nat) (x : Nat) : List Nat :=
 match out with
 | [] => [x]
 | y :: r => if 0 < c x y then [x] else if c x y < 0 then y :: r else (y :: r) ++ [x]
def bestL (c : Nat → Nat → Int) (l : List Nat) : List Nat := l.foldl (pick c) []
theorem pick_ne (c : Nat → Nat → Int) (out : List Nat) (x : Nat) : pick c out x ≠ [] := by
 unfold pick
 split
 ·simp
 ·split
  ·simp
  ·split <;> simp
theorem foldl_pick_ne (c : Nat → Nat → Int) (l : List Nat) : ∀ out, out ≠ [] ∨ l ≠ [] → l.foldl (pick c) out ≠ [] := by
 induction l with
 | nil => intro out h; rcases h with h | h <;> simp_all
 | cons x r ih => exact fun out _ => ih _ (.inl (pick_ne c out x))
theorem bestL_ne {c : Nat → Nat → Int} {l : List Nat} (h : l ≠ []) : bestL c l ≠ [] := foldl_pick_ne c l [] (.inr h)
theorem bestL_snoc (c : Nat → Nat → Int) (l : List Nat) (x : Nat) : bestL c (l ++ [x]) = pick c (bestL c l) x := by simp [bestL]
theorem bestL_take {c : Nat → Nat → Int} {l : List Nat} {k x : Nat} (h : l[k]? = some x) : bestL c (l.take (k + 1)) = pick c (bestL c (l.take k)) x := by
 obtain ⟨hl, rfl⟩ := List.getElem?_eq_some_iff.1 h
 rw [List.take_succ_eq_append_getElem hl, bestL_snoc]
theorem pick_sub (c : Nat → Nat → Int) (out : List Nat) (x : Nat) : (pick c out x).Sublist (out ++ [x]) := by
 unfold pick
 split
 ·simp
 ·split
  ·exact List.sublist_append_right _ _
  ·split
   ·exact List.sublist_append_left _ _
   ·exact List.Sublist.refl _
theorem foldl_pick_sub (c : Nat → Nat → Int) (l : List Nat) : ∀ out, (l.foldl (pick c) out).Sublist (out ++ l) := by
 induction l with
 | nil => intro out; simp
 | cons x r ih =>
   intro out
   have h := ih (pick c out x)
   refine h.trans ?_
   have := (pick_sub c out x).append (List.Sublist.refl r)
   simpa using this
theorem bestL_sub (c : Nat → Nat → Int) (l : List Nat) : (bestL c l).Sublist l := by simpa [bestL] using foldl_pick_sub c l []
def bump (S : List Int) (l : List Nat) : List Int := l.foldl (fun s i => s.set i (atI s i + 1)) S
theorem bump_nil (S : List Int) : bump S [] = S := rfl
theorem bump_snoc (S : List Int) (l : List Nat) (i : Nat) : bump S (l ++ [i]) = (bump S l).set i (atI (bump S l) i + 1) := by simp [bump]
theorem bump_length (l : List Nat) : ∀ S : List Int, (bump S l).length = S.length := by
 induction l with
 | nil => exact fun S => rfl
 | cons x r ih => exact fun S => by rw [bump, List.foldl_cons, ← bump, ih]; simp
theorem bump_take {S : List Int} {l : List Nat} {k i : Nat} (h : l[k]? = some i) : bump S (l.take (k + 1)) = (bump S (l.take k)).set i (atI (bump S (l.take k)) i + 1) := by
 obtain ⟨hl, rfl⟩ := List.getElem?_eq_some_iff.1 h
 rw [List.take_succ_eq_append_getElem hl, bump_snoc]
theorem bump_other {l : List Nat} : ∀ {S : List Int} {j : Nat}, j ∉ l → atI (bump S l) j = atI S j := by
 induction l with
 | nil => exact fun _ => rfl
 | cons x r ih =>
   intro S j h
   rw [bump, List.foldl_cons, ← bump, ih (fun hm => h (List.mem_cons_of_mem _ hm)), atI_set_ne (fun e => h (by simp [e]))]
theorem bump_mem {l : List Nat} : ∀ {S : List Int} {j : Nat}, l.Nodup → j ∈ l → j < S.length → atI (bump S l) j = atI S j + 1 := by
 induction l with
 | nil => exact fun _ h => absurd h (by simp)
 | cons x r ih =>
   intro S j hd h hj
   rw [List.nodup_cons] at hd
   rw [bump, List.foldl_cons, ← bump]
   rcases List.mem_cons.1 h with rfl | h
   ·rw [bump_other hd.1, atI_set_same hj]
   ·rw [ih hd.2 h (by simpa using hj), atI_set_ne (fun e => by subst e; exact hd.1 h)]
theorem sum_set {S : List Int} {i : Nat} {x : Int} (h : i < S.length) : (S.set i x).sum = S.sum - atI S i + x := by
 induction S generalizing i with
 | nil => simp at h
 | cons y r ih =>
   cases i with
   | zero => simp [atI]; omega
   | succ i =>
     have := ih (i := i) (by simpa using h)
     simp only [List.set_cons_succ, List.sum_cons, this, atI, List.getElem?_cons_succ]
     omega
theorem bump_sum {l : List Nat} : ∀ {S : List Int}, (∀ j ∈ l, j < S.length) → (bump S l).sum = S.sum + l.length := by
 induction l with
 | nil => intro S _; simp [bump]
 | cons x r ih =>
   intro S h
   rw [bump, List.foldl_cons, ← bump, ih (fun j hj => by simpa using h j (List.mem_cons_of_mem _ hj)), sum_set (h x (by simp))]
   simp; omega
theorem bump_le {l : List Nat} : ∀ {S : List Int} (j : Nat), atI S j ≤ atI (bump S l) j := by
 induction l with
 | nil => exact fun j => Int.le_refl _
 | cons x r ih =>
   intro S j
   rw [bump, List.foldl_cons, ← bump]
   refine Int.le_trans ?_ (ih j)
   by_cases e : x = j
   ·subst e
    by_cases hl : x < S.length
    ·rw [atI_set_same hl]; omega
    ·rw [List.set_eq_of_length_le (by omega)]; exact Int.le_refl _
   ·rw [atI_set_ne e]; exact Int.le_refl _
structure Aw where
 seats : List Int
 tied : List Nat
 left : Int
 order : List Nat
def vs (f : Int → Int → Int → Int → Int) (P S : List Int) (i j : Nat) : Int := f (atI P i) (atI S i) (atI P j) (atI S j)
def award (f : Int → Int → Int → Int → Int) (P : List Int) (C : List Nat) : Nat → List Int → Int → List Nat → Aw
 | 0, S, _, o => ⟨S, [], 0, o⟩
 | k + 1, S, left, o =>
   if left ≤ 0 then ⟨S, [], 0, o⟩
   else if left < (bestL (vs f P S) C).length then ⟨S, bestL (vs f P S) C, left, o⟩
   else award f P C k (bump S (bestL (vs f P S) C)) (left - (bestL (vs f P S) C).length) (o ++ bestL (vs f P S) C)
section
variable {f : Int → Int → Int → Int → Int} {P : List Int} {C : List Nat}
theorem award_done {k : Nat} {S : List Int} {left : Int} {o : List Nat} (h : left ≤ 0) : award f P C k S left o = ⟨S, [], 0, o⟩ := by
 cases k with
 | zero => rfl
 | succ k => rw [award, if_pos h]
theorem award_tie {k : Nat} {S : List Int} {left : Int} {o : List Nat} (h : 0 < left) (hk : left ≤ k) (ht : left < (bestL (vs f P S) C).length) : award f P C k S left o = ⟨S, bestL (vs f P S) C, left, o⟩ := by
 cases k with
 | zero => omega
 | succ k => rw [award, if_neg (by omega), if_pos ht]
theorem award_step {k : Nat} {S : List Int} {left : Int} {o : List Nat} (h : 0 < left) (ht : ¬ left < (bestL (vs f P S) C).length) :
  award f P C (k + 1) S left o = award f P C k (bump S (bestL (vs f P S) C)) (left - (bestL (vs f P S) C).length) (o ++ bestL (vs f P S) C) := by
 rw [award, if_neg (by omega), if_neg ht]
theorem award_fuel (hC : C ≠ []) : ∀ (k j : Nat) (S : List Int) (left : Int) (o : List Nat), left ≤ k → left ≤ j → award f P C k S left o = award f P C j S left o := by
 intro k
 induction k with
 | zero => intro j S left o hk hj; rw [award_done (by omega), award_done (by omega)]
 | succ k ih =>
   intro j S left o hk hj
   by_cases h0 : left ≤ 0
   ·rw [award_done h0, award_done h0]
   ·by_cases ht : left < (bestL (vs f P S) C).length
    ·rw [award_tie (by omega) hk ht, award_tie (by omega) hj ht]
    ·cases j with
     | zero => omega
     | succ j =>
       have hb := List.length_pos_iff.2 (bestL_ne (c := vs f P S) hC)
       rw [award_step (by omega) ht, award_step (by omega) ht]
       exact ih j _ _ _ (by omega) (by omega)
def Goes (f : Int → Int → Int → Int → Int) (P : List Int) (C : List Nat) (A : Aw) (S : List Int) (left : Int) (o : List Nat) : Prop := award f P C left.toNat S left o = A
theorem Goes.done {A : Aw} {S : List Int} {left : Int} {o : List Nat} (h : Goes f P C A S left o) (h0 : left ≤ 0) : A = ⟨S, [], 0, o⟩ := by rw [← h, award_done h0]
theorem Goes.tie {A : Aw} {S : List Int} {left : Int} {o : List Nat} (h : Goes f P C A S left o) (h0 : 0 < left) (ht : left < (bestL (vs f P S) C).length) : A = ⟨S, bestL (vs f P S) C, left, o⟩ := by rw [← h, award_tie h0 (by omega) ht]
theorem Goes.step {A : Aw} {S : List Int} {left : Int} {o : List Nat} (h : Goes f P C A S left o) (hC : C ≠ []) (h0 : 0 < left) (ht : ¬ left < (bestL (vs f P S) C).length) :
  Goes f P C A (bump S (bestL (vs f P S) C)) (left - (bestL (vs f P S) C).length) (o ++ bestL (vs f P S) C) := by
 have hb := List.length_pos_iff.2 (bestL_ne (c := vs f P S) hC)
 unfold Goes at *
 obtain ⟨k, hk⟩ : ∃ k, left.toNat = k + 1 := ⟨left.toNat - 1, by omega⟩
 rw [hk, award_step h0 ht] at h
 rw [← h]
 exact award_fuel hC _ _ _ _ _ (by omega) (by omega)
end
def full (P : List Int) : List Nat := (List.range P.length).filter fun i => decide (0 < atI P i)
theorem mem_full {P : List Int} {i : Nat} : i ∈ full P ↔ i < P.length ∧ 0 < atI P i := by simp [full]
theorem full_nodup (P : List Int) : (full P).Nodup := List.nodup_range.sublist List.filter_sublist
theorem full_ne {P : List Int} (h : 0 < P.sum) : full P ≠ [] := by
 intro he
 have hz : ∀ x ∈ P, x ≤ 0 := by
  intro x hx
  obtain ⟨i, hi, rfl⟩ := List.getElem_of_mem hx
  have hn : i ∉ full P := by rw [he]; simp
  rw [mem_full] at hn
  have : atI P i = P[i] := atI_of (List.getElem?_eq_getElem hi)
  rw [← this]
  by_cases h0 : 0 < atI P i
  ·exact absurd ⟨hi, h0⟩ hn
  ·omega
 have hs : ∀ l : List Int, (∀ x ∈ l, x ≤ 0) → l.sum ≤ 0 := by
  intro l
  induction l with
  | nil => intro _; simp
  | cons y r ih =>
    intro h
    have h1 := h y (by simp)
    have h2 := ih (fun x hx => h x (by simp [hx]))
    simp; omega
 have := hs P hz
 omega
def awardOf (f : Int → Int → Int → Int → Int) (P : List Int) (S : List Int) (left : Int) : Aw := award f P (full P) left.toNat S left []
end Go.Proofs.YteocdndanehpnaaGreat
namespace Go.Proofs.YteocdndanehpnaaGreat
open Go.RowKit
abbrev pt (g : Nat) : Value := .pointer (some ⟨g, 0, none⟩)
def ptrs (G : Nat → Nat) (l : List Nat) : List Value := l.map fun i => pt (G i)
theorem ptrs_length (G : Nat → Nat) (l : List Nat) : (ptrs G l).length = l.length := by simp [ptrs]
theorem ptrs_snoc (G : Nat → Nat) (l : List Nat) (x : Nat) : ptrs G (l ++ [x]) = ptrs G l ++ [pt (G x)] := by simp [ptrs]
theorem ptrs_get {G : Nat → Nat} {l : List Nat} {k : Nat} {x : Value} (h : (ptrs G l)[k]? = some x) : ∃ i, l[k]? = some i ∧ x = pt (G i) := by
 unfold ptrs at h
 rw [List.getElem?_map] at h
 cases hl : l[k]? with
 | none => rw [hl] at h; cases h
 | some i => rw [hl] at h; cases h; exact ⟨i, rfl, rfl⟩
theorem infoPtr : (Tryz.prog.info? 120).map (fun i => (i.zero, i.size, i.bytes)) = some (some (.pointer none), 1, 8) := by kernel_rfl
def BestPost (G : Nat → Nat) (w : World) (l : List Nat) (e : Ending) (w' : World) : Prop :=
 ∃ A c, e = .returned (.slice A l.length c) ∧ Row w' A l.length (ptrs G l) ∧ l.length ≤ c ∧ Lat w w' ∧ ∀ a, A = some a → w.heap.size ≤ a.block ∧ ∃ cs, Blk w' a.block 120 cs
set_option maxRecDepth 100000 in
set_option maxHeartbeats 2000000 in
theorem best_any (c : Nat → Nat → Int) (G : Nat → Nat) (C : List Nat) (A : Option Addr) (n cap gf : Nat) (w : World) (hr : Row w A n (ptrs G C)) (hn : n ≤ 1000)
  (eg : ∀ args w, (callFunc gf args).run Tryz.prog w = .ok (.enter gf args) w)
  (hc : ∀ i j w', i ∈ C → j ∈ C → Lat w w' → Calls Tryz.prog gf #[pt (G i), pt (G j)] w' (fun e w'' => e = .returned (.int .i64 (c i j)) ∧ Lat w' w'')) :
  Calls Tryz.prog 82 #[.slice A n cap, .func (.func gf) #[] #[]] w (BestPost G w (bestL c C)) := by
 have hCn : C.length = n := by have := hr.1; rwa [ptrs_length] at this
 have HE := Lib.hid eg
 clear eg
 go_enter Tryz.func82, Tryz.ntmps82
 go_wp2
 go_loopw [5, 11] (fun v i wr => ∃ k : Nat, k ≤ n ∧ i = .int .i64 k ∧ OwnV wr w.heap.size 120 v (ptrs G (bestL c (C.take k))) ∧ (k = 0 → v = .slice none 0 0) ∧ Lat w wr) (fun _ i _ => n - (intOf i).toNat)
 case atStart => exact ⟨0, Nat.zero_le _, rfl, OwnV.nil _ _ _, fun _ => rfl, Lat.refl _⟩
 case round =>
  obtain ⟨k, hk, rfl, hown, hz, hlr⟩ := hrel
  have hwl := hlr.size
  by_cases hlt : k < n
  ·obtain ⟨a, u, rfl, ha, hu, hcell⟩ := hr.at hlt
   obtain ⟨x, hx, rfl⟩ := ptrs_get hu
   have hcl : wr.cell? (a.add k) = some (.pointer (some ⟨G x, 0, none⟩)) := hlr.cell (by rw [block_add]; exact ha) hcell
   have HT := Lib.hid (bestL_take (c := c) hx)
   have HM := Lib.hid (List.mem_of_getElem? hx)
   have HL : (bestL c (C.take k)).length ≤ 1000 := by
    have := (bestL_sub c (C.take k)).length_le
    rw [List.length_take] at this
    omega
   have HB := Lib.hid (fun y (hy : y ∈ bestL c (C.take k)) => List.mem_of_mem_take ((bestL_sub c (C.take k)).subset hy))
   clear hx hu hcell ha
   cases hb : bestL c (C.take k) with
   | nil =>
     have hk0 : k = 0 := by
      rcases Nat.eq_zero_or_pos k with h | h
      ·exact h
      ·exact absurd hb (bestL_ne (fun e => by have := congrArg List.length e; rw [List.length_take] at this; simp only [List.length_nil] at this; omega))
     obtain rfl := hz hk0
     rw [hb] at hown HT
     have HT' : Hid (bestL c (C.take (k + 1)) = [x]) := by show _ = _; rw [HT.out]; rfl
     have HK := Lib.hid hk0
     clear hb hk0 hz HL HB HT
     go_wp2_with (refine wpList_pushV rfl _ _ 117 (by rfl) w.heap.size 120 120 (.pointer none) 8 Tryz.underlying117 infoPtr rfl (by decide) _ [] [.pointer (some ⟨G x, 0, none⟩)] (by simp [Value.oneCell']) _ wr.heap.size (by rfl) (OwnV.nil _ _ _) (Blk.new _ _ _) 1 rfl (by decide) (by rfl) (by simp) (by simp; omega) ?_; intro v' w1 hown1 _ hlat1)
     go_roundw
     case rel => exact ⟨k + 1, by omega, by go_num, by rw [HT'.out]; exact hown1, fun h => by omega, hlat1 w (hlr.trans (Lat.alloc _ _)) (Nat.le_refl _)⟩
     case measure => simp [intOf]; omega
   | cons y r =>
     rw [hb] at hown HT HL HB
     obtain ⟨A2, c2, rfl, hrow, hcap, hblk⟩ := hown.form
     obtain ⟨a2, u2, rfl, ha2, hu2, hcell2⟩ := hrow.at (i := 0) (by simp [ptrs])
     obtain rfl : pt (G y) = u2 := by simpa [ptrs] using hu2
     have hc2 : wr.cell? a2 = some (.pointer (some ⟨G y, 0, none⟩)) := by have := hcell2; rwa [show a2.add 0 = a2 by simp [Addr.add]] at this
     have hlen : (ptrs G (y :: r)).length = r.length + 1 := by simp [ptrs]
     have HCM := hc x y wr HM.out (HB.out y (by simp)) hlr
     obtain ⟨cv, hcv⟩ : ∃ cv, c x y = cv := ⟨_, rfl⟩
     have HP : Hid (bestL c (C.take (k + 1)) = if 0 < cv then [x] else if cv < 0 then y :: r else (y :: r) ++ [x]) := by show _ = _; rw [HT.out, ← hcv]; rfl
     rw [hcv] at HCM
     clear hu2 hcell2 hz HB HT hb hcv hc HM
     rw [hlen] at hown
     have hl1 : r.length + 1 ≤ 1000 := HL
     have eg := HE.out
     go_wp2_with fail
     clear eg
     refine HCM.mono ?_
     rintro e w1 ⟨rfl, l1⟩
     have hown1 := hown.later l1
     have L1 := hlr.trans l1
     have hw1 := L1.size
     clear HCM hown hrow hblk hcl hc2 l1
     rcases Int.lt_trichotomy cv 0 with h0 | h0 | h0
     ·have HP' : Hid (bestL c (C.take (k + 1)) = y :: r) := by show _ = _; rw [HP.out, if_neg (by omega), if_pos h0]
      clear HP
      go_wp2
      go_roundw
      case rel => exact ⟨k + 1, by omega, by go_num, by rw [HP'.out]; exact hown1, fun h => by omega, L1⟩
      case measure => simp [intOf]; omega
     ·have HP' : Hid (bestL c (C.take (k + 1)) = (y :: r) ++ [x]) := by show _ = _; rw [HP.out, if_neg (by omega), if_neg (by omega)]
      subst h0
      clear HP
      go_wp2_with (refine wpList_pushV rfl _ _ 117 (by rfl) w.heap.size 120 120 (.pointer none) 8 Tryz.underlying117 infoPtr rfl (by decide) _ (ptrs G (y :: r)) [.pointer (some ⟨G x, 0, none⟩)] (by simp [Value.oneCell']) _ w1.heap.size (by rfl) (hown1.later (Lat.alloc _ _)) (Blk.new _ _ _) 1 rfl (by decide) (by rfl) (by rw [hlen]; omega) (by simp; omega) ?_; intro v' w2 hown2 _ hlat2)
      go_roundw
      case rel => exact ⟨k + 1, by omega, by go_num, by rw [HP'.out, ptrs_snoc]; exact hown2, fun h => by omega, hlat2 w (L1.trans (Lat.alloc _ _)) (Nat.le_refl _)⟩
      case measure => simp [intOf]; omega
     ·have HP' : Hid (bestL c (C.take (k + 1)) = [x]) := by show _ = _; rw [HP.out, if_pos h0]
      have hcut := hown1.cut
      clear HP
      go_wp2_with (refine wpList_pushV rfl _ _ 117 (by rfl) w.heap.size 120 120 (.pointer none) 8 Tryz.underlying117 infoPtr rfl (by decide) _ [] [.pointer (some ⟨G x, 0, none⟩)] (by simp [Value.oneCell']) _ w1.heap.size (by rfl) (hcut.later (Lat.alloc _ _)) (Blk.new _ _ _) 1 rfl (by decide) (by rfl) (by simp) (by simp; omega) ?_; intro v' w2 hown2 _ hlat2)
      go_roundw
      case rel => exact ⟨k + 1, by omega, by go_num, by rw [HP'.out]; exact hown2, fun h => by omega, hlat2 w (L1.trans (Lat.alloc _ _)) (Nat.le_refl _)⟩
      case measure => simp [intOf]; omega
  ·obtain rfl : k = n := by omega
   obtain ⟨A2, c2, rfl, hrow, hcap, hblk⟩ := hown.form
   have hbk := hown.blk
   have HF : Hid (BestPost G w (bestL c C) (.returned (.slice A2 (ptrs G (bestL c (C.take k))).length c2)) wr) := by
    rw [List.take_of_length_le (by omega)] at hrow hcap ⊢
    rw [ptrs_length] at hrow hcap ⊢
    exact ⟨A2, c2, rfl, hrow, hcap, hlr, fun a e => ⟨(hblk a e).1, hbk a e⟩⟩
   clear hz hown hrow hcap hblk hbk
   go_wp2
   go_ret
   exact HF.out
end Go.Proofs.YteocdndanehpnaaGreat
