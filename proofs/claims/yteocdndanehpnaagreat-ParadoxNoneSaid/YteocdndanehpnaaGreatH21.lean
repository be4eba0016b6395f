/- Several texts in one: RunB. -/
import Derived.Test.YteocdndanehpnaaGreatH20
import Derived.Test.YteocdndanehpnaaGreatH18
import Derived.Deep.DeepCutAuto
namespace Go.Proofs.YteocdndanehpnaaGreat
open Go.RowKit Go.Shelf
set_option linter.unusedSimpArgs false
theorem clone_any (A : Option Addr) (n c : Nat) (xs : List Int) (w : World) (hs : Sl w .i64 A n xs) (hn : 0 < n) (hn2 : n ≤ 17000000000000) :
  Calls Tryz.prog 22 #[.slice A n c] w (fun e w' => ∃ g c', e = .returned (.slice (some ⟨g, 0, none⟩) n c') ∧ RowN w' g n xs ∧ w.heap.size ≤ g ∧ Lat w w') := by
 obtain ⟨b, o, rfl, hc⟩ := hs.plain hn
 have hl := hs.1
 refine (Tryz.slices_Clone_int b o n c xs w (by omega) (by omega) hc).mono ?_
 rintro e w' ⟨v, rfl, ⟨h1, h2⟩, hne, hb⟩
 rcases h2 with ⟨rfl, _⟩ | ⟨g, cap, cur, rfl, hB, hg, hnc, _, hcs, ht⟩
 ·exact absurd rfl hne
 ·refine ⟨g, cap, rfl, ⟨cur, hg, ?_, hl, by omega⟩, hB, hb⟩
  rw [Nat.mul_one, List.take_of_length_le (by omega : xs.length ≤ n)] at ht
  exact ht
def lowOf (n : Nat) (L : List Int) : List Int := if L = [] then List.replicate n 0 else L
theorem lowOf_nil (n : Nat) : lowOf n [] = List.replicate n 0 := rfl
theorem lowOf_of {n : Nat} {L : List Int} (h : L ≠ []) : lowOf n L = L := by rw [lowOf, if_neg h]
def fullK (P : List Int) (k : Nat) : List Nat := (List.range k).filter fun i => decide (0 < atI P i)
theorem fullK_yes {P : List Int} {k : Nat} (h : 0 < atI P k) : fullK P (k + 1) = fullK P k ++ [k] := by simp [fullK, List.range_succ, List.filter_append, h]
theorem fullK_no {P : List Int} {k : Nat} (h : ¬ 0 < atI P k) : fullK P (k + 1) = fullK P k := by
 have : atI P k ≤ 0 := by omega
 simp [fullK, List.range_succ, List.filter_append, this]
theorem fullK_lt {P : List Int} {k i : Nat} (h : i ∈ fullK P k) : i < k := by simp [fullK] at h; exact h.1
theorem fullK_len (P : List Int) (k : Nat) : (fullK P k).length ≤ k := by
 have := List.length_filter_le (fun i => decide (0 < atI P i)) (List.range k)
 rwa [List.length_range] at this
theorem ptrs_upd {G : Nat → Nat} {l : List Nat} {k g : Nat} (h : ∀ i ∈ l, i < k) : ptrs (fun i => if i = k then g else G i) l = ptrs G l := by
 unfold ptrs
 refine List.map_congr_left fun i hi => ?_
 show pt (if i = k then g else G i) = _
 rw [if_neg (by have := h i hi; omega)]
structure Gath (rcb B0 : Nat) (m seats : Int) (R : Int → Int → List Value → Prop) (P Lz : List Int) (k : Nat) (G : Nat → Nat) (v : Value) (W : World) : Prop where
 rc : Blk W rcb 119 #[.int .i64 m, v, .int .i64 (seats - (Lz.take k).sum)]
 own : OwnV W B0 120 v (ptrs G (fullK P k))
 cl : ∀ i, i ∈ fullK P k → Cl R W (G i) i (atI P i) (atI Lz i)
 inj : ∀ i j, i ∈ fullK P k → j ∈ fullK P k → G i = G j → i = j
 new : ∀ i, i ∈ fullK P k → B0 ≤ G i
theorem Gath.skip {rcb B0 : Nat} {m seats : Int} {R : Int → Int → List Value → Prop} {P Lz : List Int} {k : Nat} {G : Nat → Nat} {v : Value} {W W9 : World} (hG : Gath rcb B0 m seats R P Lz k G v W) (hx : ¬ 0 < atI P k) (hb : rcb < B0)
  (hrc : Blk W9 rcb 119 #[.int .i64 m, v, .int .i64 (seats - (Lz.take (k + 1)).sum)]) (hl : LatP (· = rcb) W W9) : Gath rcb B0 m seats R P Lz (k + 1) G v W9 := by
 have hf := fullK_no hx
 refine ⟨hrc, ?_, ?_, ?_, ?_⟩
 ·rw [hf]; exact hG.own.kept' hl (fun g hg h => by have := (hG.own.at g hg).1; omega)
 ·rw [hf]; exact fun i hi => (hG.cl i hi).kept (hl.block _ (hG.cl i hi).lt (by have := hG.new i hi; omega))
 ·rw [hf]; exact hG.inj
 ·rw [hf]; exact hG.new
theorem Gath.more {rcb B0 : Nat} {m seats : Int} {R : Int → Int → List Value → Prop} {P Lz : List Int} {k : Nat} {G : Nat → Nat} {v v' : Value} {W W12 W13 W14 : World} {g : Nat} (hG : Gath rcb B0 m seats R P Lz k G v W) (hx : 0 < atI P k) (hb : rcb < B0)
  (hcl : Cl R W12 g k (atI P k) (atI Lz k)) (hl : LatP (· = rcb) W W12) (hg : W.heap.size ≤ g) (hB : B0 ≤ W.heap.size) (hgr : W12.grownBy W13 v.ownBlock) (hown : OwnV W13 B0 120 v' (ptrs G (fullK P k) ++ [pt g]))
  (hrc : Blk W14 rcb 119 #[.int .i64 m, v', .int .i64 (seats - (Lz.take (k + 1)).sum)]) (hk : ∀ j, j ≠ rcb → W14.heap[j]? = W13.heap[j]?) :
  Gath rcb B0 m seats R P Lz (k + 1) (fun i => if i = k then g else G i) v' W14 := by
 have hf := fullK_yes hx
 have hown12 : OwnV W12 B0 120 v (ptrs G (fullK P k)) := hG.own.kept' hl (fun q hq h => by have := (hG.own.at q hq).1; omega)
 have hnot : ∀ q T, Blk W12 q 127 T → some q ≠ v.ownBlock := by
  intro q T hq h
  obtain ⟨_, _, cs, h3⟩ := hown12.at q h.symm
  unfold Blk at hq h3
  rw [hq] at h3
  cases h3
 have hkeep : ∀ q i p sx, q ≠ rcb → Cl R W12 q i p sx → Cl R W14 q i p sx := by
  intro q i p sx hq hc
  obtain ⟨T, h1, h2⟩ := hc
  exact ⟨T, h1, (hk q hq).trans ((hgr.block q h2.lt (hnot q _ h2)).trans h2)⟩
 have hcl12 : ∀ i, i ∈ fullK P k → Cl R W12 (G i) i (atI P i) (atI Lz i) := fun i hi => (hG.cl i hi).kept (hl.block _ (hG.cl i hi).lt (by have := hG.new i hi; omega))
 have hmem : ∀ i, i ∈ fullK P (k + 1) → i ∈ fullK P k ∨ i = k := by intro i hi; rw [hf] at hi; simpa using hi
 have hlt : ∀ i, i ∈ fullK P k → G i < g := fun i hi => by have := (hG.cl i hi).lt; omega
 refine ⟨hrc, ?_, ?_, ?_, ?_⟩
 ·rw [hf, ptrs_snoc, ptrs_upd (fun i hi => fullK_lt hi), if_pos rfl]
  exact hown.kept (fun q hq => hk q (by have := (hown.at q hq).1; omega))
 ·intro i hi
  rcases hmem i hi with h | rfl
  ·have hne : i ≠ k := by have := fullK_lt h; omega
   simp only [if_neg hne]
   exact hkeep _ _ _ _ (by have := hG.new i h; omega) (hcl12 i h)
  ·simp only [if_true]
   exact hkeep _ _ _ _ (by omega) hcl
 ·intro i j hi hj he
  rcases hmem i hi with h | rfl <;> rcases hmem j hj with h' | rfl
  ·have hne : i ≠ k := by have := fullK_lt h; omega
   have hne' : j ≠ k := by have := fullK_lt h'; omega
   simp only [if_neg hne, if_neg hne'] at he
   exact hG.inj i j h h' he
  ·have hne : i ≠ j := by have := fullK_lt h; omega
   simp only [if_neg hne, if_true] at he
   have := hlt i h; omega
  ·have hne : j ≠ i := by have := fullK_lt h'; omega
   simp only [if_neg hne, if_true] at he
   have := hlt j h'; omega
  ·rfl
 ·intro i hi
  rcases hmem i hi with h | rfl
  ·have hne : i ≠ k := by have := fullK_lt h; omega
   simp only [if_neg hne]
   exact hG.new i h
  ·simp only [if_true]; omega
theorem LatP.narrow {rcb B0 : Nat} {W w : World} (h : LatP (fun j => j = rcb ∨ B0 ≤ j) W w) (hB : W.heap.size = B0) : LatP (· = rcb) W w :=
 ⟨h.os, h.tape, h.output, h.size, fun k hk hn => h.block k hk (fun h' => by rcases h' with h' | h'; exact hn h'; omega)⟩
theorem OwnV.slice {w : World} {B : Nat} {E : TypeId} {v : Value} {xs : List Value} (h : OwnV w B E v xs) : ∃ A n c, v = .slice A n c := by
 obtain ⟨A, c, h, _⟩ := h.form
 exact ⟨A, _, c, h⟩
theorem seats_fn (rc td : Nat) (w : World) : Calls Tryz.prog 58 #[pt rc, pt td] w (fun e w' => e = .returned (.func (.func 81) #[] #[pt w.heap.size, pt (w.heap.size + 1)]) ∧ Lat w w' ∧ Blk w' w.heap.size 160 #[pt rc] ∧ Blk w' (w.heap.size + 1) 130 #[pt td] ∧ w.heap.size + 1 < w'.heap.size) := by
 go_enter Tryz.func58, Tryz.ntmps58
 go_wp2
 refine name2 (Q := fun W => bodyPost _ _ _ _ _ W) ?_
 intro W hl hs k1 k2
 go_ret
 exact ⟨rfl, hl, k1, k2, hs⟩
theorem inBlock_either {id : Nat} {K : Act → World → Prop} {Q : Exit → Act → World → Prop} {x : Bool} {a : Act} {W : World} (h : K a W) : Exit.inBlock id (Exit.then K Q) (if x then .exit id else .normal) a W := by
 cases x
 ·exact h
 ·simp only [if_true, Exit.inBlock]
  first | exact h | (rw [if_pos rfl]; exact h)
theorem blk_ne {W : World} {g g' : Nat} {t t' : TypeId} {cs cs' : Array Value} (h : Blk W g t cs) (h' : Blk W g' t' cs') (ht : t ≠ t') : g ≠ g' := by
 intro e
 subst e
 unfold Blk at h h'
 rw [h] at h'
 cases h'
 exact ht rfl
theorem Cl.blk {R : Int → Int → List Value → Prop} {w : World} {g : Nat} {i p s : Int} (h : Cl R w g i p s) : ∃ cs, Blk w g 127 cs := by
 obtain ⟨S, _, h2⟩ := h
 exact ⟨_, h2⟩
theorem Mem.not_mine {s : Site} {m : Int} {R : Int → Int → List Value → Prop} {P S : List Int} {left : Int} {tv : Value} {W : World} (hM : Mem s m R P S left tv W) (hA : ∀ a, s.A = some a → ∃ cs, Blk W a.block 120 cs) {g : Nat} {t : TypeId} {cs : Array Value} (h : Blk W g t cs)
  (h1 : t ≠ 160) (h2 : t ≠ 130) (h3 : t ≠ 119) (h4 : t ≠ 117) (h5 : t ≠ 127) (h6 : t ≠ 120) : ¬ s.mine g := by
 rintro (e | e | e | e | ⟨i, hi, e⟩ | ⟨a, ea, e⟩)
 ·exact blk_ne h hM.br h1 e
 ·exact blk_ne h hM.bt h2 e
 ·exact blk_ne h hM.rc h3 e
 ·exact blk_ne h hM.td h4 e
 ·obtain ⟨cs', k⟩ := (hM.cl i hi).blk
  exact blk_ne h k h5 e
 ·obtain ⟨cs', k⟩ := hA a ea
  exact blk_ne h k h6 e
theorem Mem.apart {s : Site} {m : Int} {R : Int → Int → List Value → Prop} {P S : List Int} {left : Int} {tv : Value} {W : World} (hM : Mem s m R P S left tv W) (hA : ∀ a, s.A = some a → ∃ cs, Blk W a.block 120 cs)
  (hd : s.C.Nodup) (hi : ∀ i j, i ∈ s.C → j ∈ s.C → s.G i = s.G j → i = j) : s.Apart := by
 have hc : ∀ i, i ∈ s.C → ∃ cs, Blk W (s.G i) 127 cs := fun i h => (hM.cl i h).blk
 refine ⟨hd, hi, blk_ne hM.br hM.bt (by decide), blk_ne hM.br hM.rc (by decide), blk_ne hM.br hM.td (by decide), blk_ne hM.bt hM.rc (by decide), blk_ne hM.bt hM.td (by decide), blk_ne hM.rc hM.td (by decide), ?_, ?_, ?_, ?_, ?_, ?_, ?_⟩
 ·intro i h; obtain ⟨_, k⟩ := hc i h; exact blk_ne k hM.br (by decide)
 ·intro i h; obtain ⟨_, k⟩ := hc i h; exact blk_ne k hM.bt (by decide)
 ·intro i h; obtain ⟨_, k⟩ := hc i h; exact blk_ne k hM.rc (by decide)
 ·intro i h; obtain ⟨_, k⟩ := hc i h; exact blk_ne k hM.td (by decide)
 ·intro a h; obtain ⟨_, k⟩ := hA a h; exact blk_ne k hM.rc (by decide)
 ·intro a h; obtain ⟨_, k⟩ := hA a h; exact blk_ne k hM.td (by decide)
 ·intro a h i h'; obtain ⟨_, k⟩ := hA a h; obtain ⟨_, k'⟩ := hc i h'; exact blk_ne k k' (by decide)
theorem Mem.mine_lt {s : Site} {m : Int} {R : Int → Int → List Value → Prop} {P S : List Int} {left : Int} {tv : Value} {W : World} (hM : Mem s m R P S left tv W) (hA : ∀ a, s.A = some a → ∃ cs, Blk W a.block 120 cs) : ∀ k, s.mine k → k < W.heap.size := by
 rintro k (e | e | e | e | ⟨i, hi, e⟩ | ⟨a, ea, e⟩)
 ·subst e; exact hM.br.lt
 ·subst e; exact hM.bt.lt
 ·subst e; exact hM.rc.lt
 ·subst e; exact hM.td.lt
 ·subst e; exact (hM.cl i hi).lt
 ·subst e; obtain ⟨_, k⟩ := hA a ea; exact k.lt
theorem atI_le_sum {l : List Int} (h : ∀ x ∈ l, 0 ≤ x) : ∀ i, 0 ≤ atI l i ∧ atI l i ≤ l.sum := by
 induction l with
 | nil => intro i; simp [atI]
 | cons y r ih =>
   intro i
   have h0 := h y (by simp)
   have ih' := ih (fun x hx => h x (by simp [hx]))
   have hs : 0 ≤ r.sum := by have := ih' r.length; omega
   cases i with
   | zero => simp only [atI, List.getElem?_cons_zero, Option.getD_some, List.sum_cons]; omega
   | succ j =>
     have := ih' j
     simp only [atI, List.getElem?_cons_succ, List.sum_cons] at this ⊢
     omega
theorem zip_one (t : Tmp) (x : Value) : (#[t] : Array Tmp).zip #[x] = #[(t, x)] := by
 apply Array.ext'
 rw [Array.toList_zip]
 rfl
theorem OwnV.len {w : World} {B : Nat} {E : TypeId} {A : Option Addr} {n c : Nat} {xs : List Value} (h : OwnV w B E (.slice A n c) xs) : n = xs.length := by
 obtain ⟨A', c', e, _⟩ := h.form
 cases e
 rfl
theorem OwnV.cap {w : World} {B : Nat} {E : TypeId} {A : Option Addr} {n c : Nat} {xs : List Value} (h : OwnV w B E (.slice A n c) xs) : n ≤ c := by
 obtain ⟨A', c', e, _, h', _⟩ := h.form
 cases e
 exact h'
theorem row_ne {W : World} {A : Option Addr} {n g : Nat} {t : TypeId} {G : Nat → Nat} {l : List Nat} {cs : Array Value} (h : Row W A n (ptrs G l)) (hn : 0 < n) (hb : Blk W g t cs) (hc : ∀ (o : Nat) (p : Option Addr), cs[o]? ≠ some (.pointer p)) : ∀ a, A = some a → a.block ≠ g := by
 intro a e he
 obtain ⟨a', e', _, hcell⟩ := h.2 hn
 rw [e] at e'; cases e'
 have hl : 0 < (ptrs G l).length := by rw [h.1]; exact hn
 have h0 := hcell 0 _ (List.getElem?_eq_getElem hl)
 obtain ⟨i, _, hx⟩ := ptrs_get (List.getElem?_eq_getElem hl)
 rw [hx] at h0
 unfold World.cell? at h0
 unfold Blk at hb
 rw [block_add, he, hb] at h0
 simp only at h0
 split at h0
 ·cases h0
 ·exact hc _ _ h0
theorem award_tied {f : Int → Int → Int → Int → Int} {P : List Int} {C : List Nat} : ∀ (k : Nat) (S : List Int) (left : Int) (o : List Nat), (∀ i ∈ (award f P C k S left o).tied, i ∈ C) ∧ ((award f P C k S left o).tied = [] → (award f P C k S left o).left = 0) ∧ (award f P C k S left o).tied.length ≤ C.length := by
 intro k
 induction k with
 | zero => intro S left o; exact ⟨fun i h => by simp [award] at h, fun _ => rfl, by simp [award]⟩
 | succ k ih =>
   intro S left o
   unfold award
   split
   ·exact ⟨fun i h => by simp at h, fun _ => rfl, by simp⟩
   ·split
    ·rename_i h
     refine ⟨fun i hi => (bestL_sub _ _).subset hi, fun he => ?_, (bestL_sub _ _).length_le⟩
     have he' : bestL (vs f P S) C = [] := he
     rw [he'] at h
     simp at h
     omega
    ·exact ih _ _ _
theorem infoInt : (Tryz.prog.info? 3).map (fun i => (i.zero, i.size, i.bytes)) = some (some (.int .i64 0), 1, 8) := by kernel_rfl
theorem list17 (l : List Value) (h : l.length = 17) : ∃ s0 s1 s2 s3 s4 s5 s6 s7 s8 s9 s10 s11 s12 s13 s14 s15 s16, l = [s0, s1, s2, s3, s4, s5, s6, s7, s8, s9, s10, s11, s12, s13, s14, s15, s16] := by
 match l, h with
 | [s0, s1, s2, s3, s4, s5, s6, s7, s8, s9, s10, s11, s12, s13, s14, s15, s16], _ => exact ⟨s0, s1, s2, s3, s4, s5, s6, s7, s8, s9, s10, s11, s12, s13, s14, s15, s16, rfl⟩
def RunOk (w : World) (n : Nat) (A : Aw) (e : Ending) (w' : World) : Prop :=
 ∃ A1 c1 A2 c2 A3 c3, e = .returned (.tuple #[.agg #[.slice A1 n c1, .slice A2 A.tied.length c2, .int .i64 A.left], .slice A3 A.order.length c3, .int .i64 0]) ∧
  Sl w' .i64 A1 n A.seats ∧ Sl w' .i64 A2 A.tied.length (ints A.tied) ∧ Sl w' .i64 A3 A.order.length (ints A.order) ∧ Lat w w' ∧
  (∀ a, A1 = some a → w.heap.size ≤ a.block) ∧ (∀ a, A2 = some a → w.heap.size ≤ a.block) ∧ (∀ a, A3 = some a → w.heap.size ≤ a.block) ∧ A.order.length ≤ c3
def RunPost (w : World) (n : Nat) (f : Int → Int → Int → Int → Int) (P Lz : List Int) (seats : Int) (e : Ending) (w' : World) : Prop :=
 (seats < Lz.sum → RunNo w 2 e w') ∧ (¬ seats < Lz.sum → RunOk w n (awardOf f P Lz (seats - Lz.sum)) e w')
set_option maxRecDepth 100000 in
set_option maxHeartbeats 8000000 in
theorem run_main {m : Int} {R : Int → Int → List Value → Prop} {f : Int → Int → Int → Int → Int} (hW : RankWay m R f) (A : Option Addr) (n c : Nat) (P : List Int) (Al : Option Addr) (nl cl : Nat) (Lx : List Int) (seats : Int) (w : World)
  (hs : Sl w .i64 A n P) (hl : Sl w .i64 Al nl Lx) (hn : n ≤ 17000000000000) (hnl : nl ≤ 17000000000000) (hc : censusB P = true) (ha : askB seats m = true) (hlen : (lowOf n Lx).length = n) (hin : inAll 0 seats (lowOf n Lx) = true) :
  Calls Tryz.prog 42 #[.slice A n c, .int .i64 seats, .int .i64 m, .slice Al nl cl] w (RunPost w n f P (lowOf n Lx) seats) := by
 have hcen := census_iff.1 hc
 have hn60 : n ≤ 60 := by have := hs.1; omega
 have hn1 : 0 < n := by
  rcases Nat.eq_zero_or_pos n with h | h
  ·have : P = [] := List.eq_nil_of_length_eq_zero (by rw [hs.1, h])
   have := hcen.2.2
   subst P; simp at this
  ·exact h
 have HCen := Lib.hid hcen
 have HC := Lib.hid (cenE_yes hc)
 have hask : 1 ≤ seats ∧ seats ≤ 1000 ∧ 11 ≤ m ∧ m ≤ 15 := by simpa [askB] using ha
 have HI := Lib.hid (in_one hask.1 hask.2.1)
 have HK : Hid (knownB m [] = true) := by show _ = _; rw [knownB, in_one hask.2.2.1 hask.2.2.2]; rfl
 have se0 := hask.1
 have se1 := hask.2.1
 have HLow := Lib.hid hin
 have HLen := Lib.hid hlen
 clear hcen hc ha hask hin hlen
 refine calls_of_marks Tryz.func42 rfl ?_
 simp only [Tryz.ntmps42, List.size_toArray, List.length_cons, List.length_nil, Nat.reduceAdd, Nat.reduceSub, Array.replicate_succ, Array.replicate_zero, List.push_toArray, List.append_toArray, List.nil_append, List.cons_append]
 go_wp2_with fail
 refine wp_scope_straight ?_
 go_wp2_with fail
 refine name3 (Q := fun W => Calls _ _ _ W _) ?_
 intro W hlW hs2 k1 k2 k3
 refine (qCheck_any A n c P W (hs.later hlW) hn).mono ?_
 rintro e w1 ⟨rfl, rfl⟩
 rw [HC.out]
 have c1 := k1.cell 0
 go_wp2_with fail
 refine name1 (Q := fun W => Calls _ _ _ W _) ?_
 intro w2 l2 hs3 k4
 refine (within_any 1 1000 (some ⟨W.heap.size, 0, none⟩) 1 1 [seats] w2 (Sl.of_blk' (t := 3) k4 rfl) (by omega)).mono ?_
 rintro e w3 ⟨rfl, l3⟩
 rw [HI.out]
 have K1 := k1.later (l2.trans l3)
 have K2 := k2.later (l2.trans l3)
 have K3 := k3.later (l2.trans l3)
 have L := (hlW.trans l2).trans l3
 clear c1 k1 k2 k3 k4 l2
 go_wp2_with fail
 refine (known_any m none 0 0 [] w3 (Sl.nil _ _ _) (by omega)).mono ?_
 rintro e w4 ⟨rfl, l4⟩
 rw [HK.out]
 have K1 := K1.later l4
 have K2 := K2.later l4
 have K3 := K3.later l4
 have L := L.trans l4
 go_upto_if 37 with (fail)
 go_cut [3] from 38 to 40 (fun v wx => ∃ A3 c3, v = .slice A3 n c3 ∧ Sl wx .i64 A3 n (lowOf n Lx) ∧ Lat w4 wx ∧ ∀ a, A3 = some a → a.block ≠ w.heap.size + 1)
 case first =>
  as_aux_lemma =>
   have hll := hl.1
   by_cases h0 : nl = 0
   ·subst h0
    have hnil : Lx = [] := List.eq_nil_of_length_eq_zero hll
    have HZ : Hid (lowOf n Lx = List.replicate n 0) := by show _ = _; rw [hnil]; rfl
    have hmk := run_make_nums (P := Tryz.prog) (t := 29) (e := 3) (k := .i64) (by_ := 8) Tryz.underlying29 (by kernel_rfl) (n : Int) n rfl (by omega) (by omega)
    clear hll hnil
    go_wp2_with fail
    go_meet
    refine ⟨some ⟨w4.heap.size, 0, none⟩, n, rfl, ?_, Lat.alloc _ _, fun a e => by cases e; have := K2.lt; simp; omega⟩
    rw [HZ.out]
    exact Sl.of_blk' (t := 3) (Blk.new _ _ _) (by simp)
   ·have hne : Lx ≠ [] := by intro h; rw [h] at hll; simp at hll; omega
    have HZ := Lib.hid (lowOf_of (n := n) hne)
    have hnn : nl = n := by
     have := HLen.out
     rw [HZ.out, hll] at this
     exact this
    have h0' : ((nl : Int) == 0) = false := by simp; omega
    have HNN := Lib.hid hnn
    clear hll hne hnn
    go_wp2_with fail
    go_meet
    have hnn := HNN.out
    subst hnn
    refine ⟨Al, cl, rfl, by rw [HZ.out]; exact hl.later L, Lat.refl _, fun a e => ?_⟩
    obtain ⟨a', e', hlt, _⟩ := hl.2 hn1
    rw [e] at e'; cases e'; omega
 case rest =>
  obtain ⟨A3, c3, rfl, hl3, l5, hA8⟩ := hcut
  have hA3' : ∀ a, A3 = some a → a.block < wc.heap.size := by
   intro a e
   obtain ⟨a', e', hlt, _⟩ := hl3.2 hn1
   rw [e] at e'; cases e'; exact hlt
  have hEQ : ((n : Int) != n) = false := by simp
  have K1 := K1.later l5
  have K2 := K2.later l5
  have K3 := K3.later l5
  have L := L.trans l5
  have hz3 := K3.lt
  clear l5 l4 l3
  have c1 := K1.cell 0
  go_upto_region 9 with (fail)
  refine name1 (Q := fun W => Code.wp _ _ _ _ W) ?_
  intro w5 l5 hs5 kr
  have K1 := K1.later l5
  have K2 := K2.later l5
  have K3 := K3.later l5
  have L := L.trans l5
  have hl3 := hl3.later l5
  have hlc := l5.size
  clear c1 l5
  have c1 := K1.cell 0
  go_wp2_with fail
  refine (within_any 0 seats A3 n c3 (lowOf n Lx) w5 hl3 (by omega)).mono ?_
  rintro e w6 ⟨rfl, l6⟩
  rw [HLow.out]
  have K1 := K1.later l6
  have K2 := K2.later l6
  have K3 := K3.later l6
  have kr := kr.later l6
  have L := L.trans l6
  have hl3 := hl3.later l6
  have hl6 := l6.size
  clear c1 l6 hEQ
  go_wp2_with fail
  refine (clone_any A3 n c3 (lowOf n Lx) w6 hl3 hn1 (by omega)).mono ?_
  rintro e w7 ⟨sr, cS, rfl, hrow, hsr, l7⟩
  have K1 := K1.later l7
  have K2 := K2.later l7
  have K3 := K3.later l7
  have kr := kr.later l7
  have L := L.trans l7
  have hl3 := hl3.later l7
  have hl7 := l7.size
  clear l7
  have c8 := K2.cell 0
  have f8 := K2.frozen 0
  go_upto_region 12 with (fail)
  refine name_set (Q := fun W => Code.wp _ _ _ _ W) K2 ?_
  intro w8 K2b hk8 hs8 hl8
  have K1 : Blk w8 w.heap.size 3 #[.int .i64 seats] := (hk8 _ (by omega)).trans K1
  have K3 : Blk w8 (w.heap.size + 1 + 1) 29 #[.slice none 0 0] := (hk8 _ (by omega)).trans K3
  have K8 : Blk w8 (w.heap.size + 1) 47 #[.slice (some ⟨sr, 0, none⟩) n cS, .slice none 0 0, .int .i64 0] := K2b
  have kr : Blk w8 wc.heap.size 119 #[.int .i64 m, .slice none 0 0, .int .i64 seats] := (hk8 _ (by omega)).trans kr
  have hrow := hrow.keepP hl8 (by omega)
  have L8 : Lat w w8 := hl8.lat L (fun k h => by omega)
  have hA3 : ∀ a, A3 = some a → a.block < wc.heap.size := hA3'
  have hl3 : Sl w8 .i64 A3 n (lowOf n Lx) := by
   refine ⟨hl3.1, fun hn => ?_⟩
   obtain ⟨a, e, hlt, hcc⟩ := hl3.2 hn
   refine ⟨a, e, by omega, fun i x hx => ?_⟩
   rw [← hcc i x hx]
   exact World.cell?_of_block (hk8 _ (by rw [block_add]; exact hA8 a e))
  have hsz8 : w8.heap.size = w7.heap.size := hs8
  have hsrw : sr < w8.heap.size := by obtain ⟨_, h, _⟩ := hrow; exact h.lt
  obtain ⟨Lz, hLz⟩ : ∃ Lz, lowOf n Lx = Lz := ⟨_, rfl⟩
  rw [hLz] at HLow HLen hl3 hrow ⊢
  have hin := inAll_iff.1 HLow.out
  have HIn := Lib.hid hin
  obtain ⟨rcb, hrcb⟩ : ∃ rcb, wc.heap.size = rcb := ⟨_, rfl⟩
  have hb1 : w.heap.size + 1 + 1 < rcb := by omega
  have hb2 : rcb < sr := by omega
  rw [hrcb] at kr hA3 ⊢
  have HLz := Lib.hid hLz
  clear K2b hk8 hl8 c8 f8 hs8 hrcb hA8 hin hA3' L hLz HLow
  obtain ⟨B0, hB0⟩ : ∃ B0, w8.heap.size = B0 := ⟨_, rfl⟩
  go_wp2
  go_loopw [61] (fun i wr => ∃ (k : Nat) (G : Nat → Nat) (v : Value), k ≤ n ∧ i = .int .i64 k ∧ Gath rcb B0 m seats R P Lz k G v wr ∧ LatP (· = rcb) w8 wr) (fun i _ => n - (intOf i).toNat)
  case atStart => exact ⟨0, fun _ => 0, .slice none 0 0, Nat.zero_le _, rfl, ⟨by have := kr; simpa using this, OwnV.nil _ _ _, fun i h => by simp [fullK] at h, fun i j h => by simp [fullK] at h, fun i h => by simp [fullK] at h⟩, LatP.refl _ _⟩
  case round =>
   obtain ⟨k, G, v, hk, rfl, hG, hlr⟩ := hrel
   have hLr : Lat w wr := hlr.lat L8 (fun k h => by omega)
   have hszr := hlr.size
   by_cases hlt : k < n
   ·obtain ⟨ap, x, rfl, hap, hxk, hcx⟩ := (hs.later hLr).at hlt
    obtain ⟨al, y, rfl, hal, hyk, hcy⟩ := hl3.at hlt
    have hcyW : ∀ w', LatP (· = rcb) wr w' → w'.cell? (al.add k) = some (.int .i64 y) := by
     intro w' hw'
     rw [← hcy]
     have hne : (al.add k).block ≠ rcb := by rw [block_add]; have := hA3 al rfl; omega
     have hlt' : (al.add k).block < w8.heap.size := by rw [block_add]; exact hal
     exact World.cell?_of_block ((hw'.block _ (by omega) hne).trans (hlr.block _ hlt' hne))
    have hy := HIn.out y (List.mem_of_getElem? hyk)
    have hx := HCen.out.2.1 x (List.mem_of_getElem? hxk)
    have hsum := sum_bound (xs := Lz.take k) (fun z hz => by have := HIn.out z (List.mem_of_mem_take hz); omega)
    have hll : (Lz.take k).length ≤ k := List.length_take_le _ _
    have HS := Lib.hid (sum_take hyk)
    have HX := Lib.hid (atI_of hxk)
    have HY := Lib.hid (atI_of hyk)
    have hrc := hG.rc
    obtain ⟨sk, hsk⟩ : ∃ sk, (Lz.take k).sum = sk := ⟨_, rfl⟩
    rw [hsk] at hsum hrc HS
    have HSK := Lib.hid hsk
    have y0 := hy.1
    have y1 := hy.2
    have x0 := hx.1
    have x1 := hx.2
    have b0 := hsum.1
    have b1 : sk ≤ 1000000000000 := by have := hsum.2; omega
    have hki : (k : Int) < (n : Int) := by omega
    clear hy hx hsum hll hsk hxk hyk hcy
    go_upto_region 15 with (fail)
    refine wp_region_held_drew (S := fun w' => LatP (· = rcb) wr w') (by kernel_rfl) ((Lat.drew wr).p _) (fun hHeld => ?_)
    have D1 := hcyW
    refine wpAnyH_take (i := 0) (v := .pointer (some ⟨rcb, 2, none⟩)) rfl (by kernel_rfl) (by kernel_rfl) (by kernel_rfl) (fun _ _ _ h => h) (Or.inl ⟨by rfl, by intro w' hS; go_simp⟩) hHeld ?_
    simp only [Act.put, List.setIfInBounds_toArray, List.set_cons_zero, List.set_cons_succ]
    refine wpAnyH_take (i := 2) (v := .slice (some al) n c3) rfl (by kernel_rfl) (by kernel_rfl) (by kernel_rfl) (fun _ _ _ h => h) (Or.inl ⟨by rfl, by intro w' hS; go_simp⟩) hHeld ?_
    simp only [Act.put, List.setIfInBounds_toArray, List.set_cons_zero, List.set_cons_succ]
    refine wpAnyH_take (i := 3) (v := .int .i64 k) rfl (by kernel_rfl) (by kernel_rfl) (by kernel_rfl) (fun _ _ _ h => h) (Or.inl ⟨by rfl, by intro w' hS; go_simp⟩) hHeld ?_
    simp only [Act.put, List.setIfInBounds_toArray, List.set_cons_zero, List.set_cons_succ]
    refine wpAnyH_take (i := 4) (v := .pointer (some (al.add k))) rfl (by kernel_rfl) (by kernel_rfl) (by kernel_rfl) (fun _ _ _ h => h) (Or.inl ⟨by rfl, by intro w' hS; go_simp⟩) hHeld ?_
    simp only [Act.put, List.setIfInBounds_toArray, List.set_cons_zero, List.set_cons_succ]
    refine wpAnyH_take (i := 5) (v := .int .i64 y) rfl (by kernel_rfl) (by kernel_rfl) (by kernel_rfl) (fun _ _ _ h => h) (Or.inl ⟨by rfl, by intro w' hS; have hc := D1 w' hS; go_simp⟩) hHeld ?_
    simp only [Act.put, List.setIfInBounds_toArray, List.set_cons_zero, List.set_cons_succ]
    refine wpAnyH_ready (rs := [1]) (by kernel_rfl) (by simp) (AllReadyH.cons rfl (fun K hK => ?_) AllReadyH.nil)
    have d2 := hrc.cell 2
    have f2 := hrc.frozen 2
    have t6 : IntKind.i64.wrap (seats - sk - y) = seats - sk - y := IntWalk.i64_in _ (by omega)
    go_simp
    refine hK.out _ _ hHeld (fun hHeld2 => ?_)
    clear hK K hHeld2
    try simp only [Act.put, List.setIfInBounds_toArray, List.set_cons_zero, List.set_cons_succ]
    refine wpAnyH_take (i := 6) (v := .int .i64 (seats - sk - y)) rfl (by kernel_rfl) (by kernel_rfl) (by kernel_rfl) (fun _ _ _ h => h) (Or.inl ⟨by rfl, by intro w' hS; go_simp⟩) hHeld ?_
    simp only [Act.put, List.setIfInBounds_toArray, List.set_cons_zero, List.set_cons_succ]
    refine wpAnyH_take (i := 7) (v := .pointer (some ⟨rcb, 2, none⟩)) rfl (by kernel_rfl) (by kernel_rfl) (by kernel_rfl) (fun _ _ _ h => h) (Or.inl ⟨by rfl, by intro w' hS; go_simp⟩) hHeld ?_
    simp only [Act.put, List.setIfInBounds_toArray, List.set_cons_zero, List.set_cons_succ]
    refine wpAnyH_ready (rs := [8]) (by kernel_rfl) (by simp) (AllReadyH.cons rfl (fun K hK => ?_) AllReadyH.nil)
    go_simp
    have hlS : LatP (· = rcb) wr (wr.drew.setCell ⟨rcb, 2, none⟩ (.int .i64 (seats - sk - y))) := ((Lat.drew wr).p _).trans ⟨rfl, rfl, rfl, by simp [World.setCell], fun j _ hj => Below.heap_setCell wr.drew ⟨rcb, 2, none⟩ _ j hj⟩
    refine hK.out _ _ hlS (fun hHeld2 => ?_)
    clear hK K hHeld2 hlS d2 f2 t6 D1
    refine wpAnyH_done (by kernel_rfl) ?_ _
    refine name_set (Q := fun W => Exit.then _ _ Exit.normal _ W) (hrc.later (Lat.drew wr)) ?_
    intro w9 k9 hk9 hs9 hl9'
    have hl9 : LatP (· = rcb) wr w9 := ((Lat.drew wr).p _).trans hl9'
    have k9 : Blk w9 rcb 119 #[.int .i64 m, v, .int .i64 (seats - sk - y)] := k9
    have hrB : rcb < B0 := by omega
    have hszB : B0 ≤ wr.heap.size := by omega
    clear hk9 hs9 hl9' hHeld hrc hcx hap
    by_cases hpx : 0 < x
    ·have hpx' : 0 < atI P k := by rw [HX.out]; exact hpx
     have D1 : ∀ w', LatP (fun j => j = rcb ∨ B0 ≤ j) w9 w' → w'.cell? (al.add k) = some (.int .i64 y) := by
      intro w' hw'
      rw [← hcyW w9 hl9]
      have h1 : (al.add k).block < rcb := by rw [block_add]; exact hA3 al rfl
      exact World.cell?_of_block (hw'.block _ (by have := hl9.size; omega) (by omega))
     have hown9 : OwnV w9 B0 120 v (ptrs G (fullK P k)) := hG.own.kept' hl9 (fun q hq h => by have := (hG.own.at q hq).1; omega)
     have hlenG : (ptrs G (fullK P k)).length + 1 ≤ 17000000000000 := by rw [ptrs_length]; have := fullK_len P k; omega
     go_upto_region 17 with (fail)
     refine wp_region_held_drew (S := fun w' => LatP (fun j => j = rcb ∨ B0 ≤ j) w9 w') (by kernel_rfl) ((Lat.drew w9).p _) (fun hHeld => ?_)
     refine wpAnyH_take (i := 0) (v := .pointer (some ⟨rcb, 1, none⟩)) rfl (by kernel_rfl) (by kernel_rfl) (by kernel_rfl) (fun _ _ _ h => h) (Or.inl ⟨by rfl, by intro w' hS; go_simp⟩) hHeld ?_
     simp only [Act.put, List.setIfInBounds_toArray, List.set_cons_zero, List.set_cons_succ]
     refine wpAnyH_take (i := 2) (v := .int .i64 k) rfl (by kernel_rfl) (by kernel_rfl) (by kernel_rfl) (fun _ _ _ h => h) (Or.inl ⟨by rfl, by intro w' hS; go_simp⟩) hHeld ?_
     simp only [Act.put, List.setIfInBounds_toArray, List.set_cons_zero, List.set_cons_succ]
     refine wpAnyH_take (i := 3) (v := .int .i64 x) rfl (by kernel_rfl) (by kernel_rfl) (by kernel_rfl) (fun _ _ _ h => h) (Or.inl ⟨by rfl, by intro w' hS; go_simp⟩) hHeld ?_
     simp only [Act.put, List.setIfInBounds_toArray, List.set_cons_zero, List.set_cons_succ]
     refine wpAnyH_take (i := 4) (v := .agg #[.int .i64 k, .int .i64 x]) rfl (by kernel_rfl) (by kernel_rfl) (by kernel_rfl) (fun _ _ _ h => h) (Or.inl ⟨by rfl, by intro w' hS; go_simp⟩) hHeld ?_
     simp only [Act.put, List.setIfInBounds_toArray, List.set_cons_zero, List.set_cons_succ]
     refine wpAnyH_take (i := 5) (v := .slice (some al) n c3) rfl (by kernel_rfl) (by kernel_rfl) (by kernel_rfl) (fun _ _ _ h => h) (Or.inl ⟨by rfl, by intro w' hS; go_simp⟩) hHeld ?_
     simp only [Act.put, List.setIfInBounds_toArray, List.set_cons_zero, List.set_cons_succ]
     refine wpAnyH_take (i := 6) (v := .int .i64 k) rfl (by kernel_rfl) (by kernel_rfl) (by kernel_rfl) (fun _ _ _ h => h) (Or.inl ⟨by rfl, by intro w' hS; go_simp⟩) hHeld ?_
     simp only [Act.put, List.setIfInBounds_toArray, List.set_cons_zero, List.set_cons_succ]
     refine wpAnyH_take (i := 7) (v := .pointer (some (al.add k))) rfl (by kernel_rfl) (by kernel_rfl) (by kernel_rfl) (fun _ _ _ h => h) (Or.inl ⟨by rfl, by intro w' hS; go_simp⟩) hHeld ?_
     simp only [Act.put, List.setIfInBounds_toArray, List.set_cons_zero, List.set_cons_succ]
     refine wpAnyH_take (i := 8) (v := .int .i64 y) rfl (by kernel_rfl) (by kernel_rfl) (by kernel_rfl) (fun _ _ _ h => h) (Or.inl ⟨by rfl, by intro w' hS; have hc := D1 w' hS; go_simp⟩) hHeld ?_
     simp only [Act.put, List.setIfInBounds_toArray, List.set_cons_zero, List.set_cons_succ]
     refine wpAnyH_take (i := 9) (v := .int .i64 m) rfl (by kernel_rfl) (by kernel_rfl) (by kernel_rfl) (fun _ _ _ h => h) (Or.inl ⟨by rfl, by intro w' hS; go_simp⟩) hHeld ?_
     simp only [Act.put, List.setIfInBounds_toArray, List.set_cons_zero, List.set_cons_succ]
     refine wpAnyH_take (i := 10) (v := .int .i64 x) rfl (by kernel_rfl) (by kernel_rfl) (by kernel_rfl) (fun _ _ _ h => h) (Or.inl ⟨by rfl, by intro w' hS; go_simp⟩) hHeld ?_
     simp only [Act.put, List.setIfInBounds_toArray, List.set_cons_zero, List.set_cons_succ]
     refine wpAnyH_take (i := 11) (v := .slice (some al) n c3) rfl (by kernel_rfl) (by kernel_rfl) (by kernel_rfl) (fun _ _ _ h => h) (Or.inl ⟨by rfl, by intro w' hS; go_simp⟩) hHeld ?_
     simp only [Act.put, List.setIfInBounds_toArray, List.set_cons_zero, List.set_cons_succ]
     refine wpAnyH_take (i := 12) (v := .int .i64 k) rfl (by kernel_rfl) (by kernel_rfl) (by kernel_rfl) (fun _ _ _ h => h) (Or.inl ⟨by rfl, by intro w' hS; go_simp⟩) hHeld ?_
     simp only [Act.put, List.setIfInBounds_toArray, List.set_cons_zero, List.set_cons_succ]
     refine wpAnyH_take (i := 13) (v := .pointer (some (al.add k))) rfl (by kernel_rfl) (by kernel_rfl) (by kernel_rfl) (fun _ _ _ h => h) (Or.inl ⟨by rfl, by intro w' hS; go_simp⟩) hHeld ?_
     simp only [Act.put, List.setIfInBounds_toArray, List.set_cons_zero, List.set_cons_succ]
     refine wpAnyH_take (i := 14) (v := .int .i64 y) rfl (by kernel_rfl) (by kernel_rfl) (by kernel_rfl) (fun _ _ _ h => h) (Or.inl ⟨by rfl, by intro w' hS; have hc := D1 w' hS; go_simp⟩) hHeld ?_
     simp only [Act.put, List.setIfInBounds_toArray, List.set_cons_zero, List.set_cons_succ]
     refine wpAnyH_ready (rs := [1, 15]) (by kernel_rfl) (by simp) (AllReadyH.cons rfl (fun K hK => ?_) (AllReadyH.cons rfl (fun K hK => ?_) AllReadyH.nil))
     ·have e1 := (k9.later (Lat.drew w9)).cell 1
      go_simp
      clear e1
      refine hK.out _ _ hHeld (fun hHeld' => ?_)
      clear hK K hHeld'
      try simp only [Act.put, List.setIfInBounds_toArray, List.set_cons_zero, List.set_cons_succ]
      refine wpAnyH_ready (rs := [15]) (by kernel_rfl) (by simp) (AllReadyH.cons rfl (fun K hK => ?_) AllReadyH.nil)
      go_simp
      refine (hW.ranked x y _ (by omega) (by omega) (by omega) (by omega)).mono ?_
      rintro e w10 ⟨S, rfl, hR, l10⟩
      obtain ⟨s0, s1, s2, s3, s4, s5, s6, s7, s8, s9, s10, s11, s12, s13, s14, s15, s16, rfl⟩ := list17 S (hW.len hR)
      have HR := Lib.hid hR
      have L10 : Lat w9 w10 := (Lat.drew w9).trans l10
      refine hK.out _ _ (L10.p _) (fun hHeld => ?_)
      clear hK K hR l10
      try simp only [Act.put, List.setIfInBounds_toArray, List.set_cons_zero, List.set_cons_succ]
      refine wpAnyH_take (i := 16) (v := .agg #[.int .i64 k, .int .i64 x, .int .i64 y, s0, s1, s2, s3, s4, s5, s6, s7, s8, s9, s10, s11, s12, s13, s14, s15, s16]) rfl (by kernel_rfl) (by kernel_rfl) (by kernel_rfl) (fun _ _ _ h => h) (Or.inl ⟨by rfl, by intro w' hS; go_simp⟩) hHeld ?_
      simp only [Act.put, List.setIfInBounds_toArray, List.set_cons_zero, List.set_cons_succ]
      refine wpAnyH_ready (rs := [17]) (by kernel_rfl) (by simp) (AllReadyH.cons rfl (fun K hK => ?_) AllReadyH.nil)
      go_simp
      have hb11 := Blk.new w10 127 #[.int .i64 k, .int .i64 x, .int .i64 y, s0, s1, s2, s3, s4, s5, s6, s7, s8, s9, s10, s11, s12, s13, s14, s15, s16]
      have L11 := L10.trans (Lat.alloc w10 (.cells #[.int .i64 k, .int .i64 x, .int .i64 y, s0, s1, s2, s3, s4, s5, s6, s7, s8, s9, s10, s11, s12, s13, s14, s15, s16] 127))
      obtain ⟨w11, hw11⟩ : ∃ w11, w10.alloc (.cells #[.int .i64 k, .int .i64 x, .int .i64 y, s0, s1, s2, s3, s4, s5, s6, s7, s8, s9, s10, s11, s12, s13, s14, s15, s16] 127) = w11 := ⟨_, rfl⟩
      rw [hw11] at hb11 L11 ⊢
      clear hw11
      refine hK.out _ _ (L11.p _) (fun hHeld => ?_)
      clear hK K
      try simp only [Act.put, List.setIfInBounds_toArray, List.set_cons_zero, List.set_cons_succ]
      refine wpAnyH_ready (rs := [18]) (by kernel_rfl) (by simp) (AllReadyH.cons rfl (fun K hK => ?_) AllReadyH.nil)
      go_simp
      have hb12 := Blk.new w11 120 #[.pointer (some ⟨w10.heap.size, 0, none⟩)]
      have hb11 := hb11.alloc (.cells #[.pointer (some ⟨w10.heap.size, 0, none⟩)] 120)
      have L12 := L11.trans (Lat.alloc w11 (.cells #[.pointer (some ⟨w10.heap.size, 0, none⟩)] 120))
      obtain ⟨w12, hw12⟩ : ∃ w12, w11.alloc (.cells #[.pointer (some ⟨w10.heap.size, 0, none⟩)] 120) = w12 := ⟨_, rfl⟩
      rw [hw12] at hb11 hb12 L12 ⊢
      clear hw12
      refine hK.out _ _ (L12.p _) (fun hHeld => ?_)
      clear hK K
      try simp only [Act.put, List.setIfInBounds_toArray, List.set_cons_zero, List.set_cons_succ]
      refine wpAnyH_ready (rs := [19]) (by kernel_rfl) (by simp) (AllReadyH.cons rfl (fun K hK => ?_) AllReadyH.nil)
      refine step_pushV rfl _ _ 117 (by rfl) B0 120 120 (.pointer none) 8 Tryz.underlying117 infoPtr rfl (by decide) v (ptrs G (fullK P k)) [.pointer (some ⟨w10.heap.size, 0, none⟩)] (by simp [Value.oneCell']) w12 w11.heap.size (by rfl) (hown9.later L12) hb12 1 rfl (by decide) (by rfl) hlenG (by have := L12.size; have := hl9.size; omega) ?_
      intro v' w13 hown13 hgr13 _
      obtain ⟨A', nv, c', rfl⟩ := hown13.slice
      have S13 : LatP (fun j => j = rcb ∨ B0 ≤ j) w9 w13 := by
       refine (L12.p _).trans ⟨hgr13.os, hgr13.tape, hgr13.output, hgr13.size, fun j hj hn => hgr13.block j hj (fun h => hn (.inr ?_))⟩
       exact (hown9.at j h.symm).1
      have k13 : Blk w13 rcb 119 #[.int .i64 m, v, .int .i64 (seats - sk - y)] := by
       refine (hgr13.block rcb (k9.later L12).lt (fun h => ?_)).trans (k9.later L12)
       have := (hown9.at rcb h.symm).1; omega
      refine hK.out _ _ S13 (fun hHeld => ?_)
      clear hK K
      try simp only [Act.put, List.setIfInBounds_toArray, List.set_cons_zero, List.set_cons_succ]
      refine wpAnyH_take (i := 20) (v := .pointer (some ⟨rcb, 1, none⟩)) rfl (by kernel_rfl) (by kernel_rfl) (by kernel_rfl) (fun _ _ _ h => h) (Or.inl ⟨by rfl, by intro w' hS; go_simp⟩) hHeld ?_
      simp only [Act.put, List.setIfInBounds_toArray, List.set_cons_zero, List.set_cons_succ]
      refine wpAnyH_ready (rs := [21]) (by kernel_rfl) (by simp) (AllReadyH.cons rfl (fun K hK => ?_) AllReadyH.nil)
      have e1 := k13.cell 1
      have e2 := k13.frozen 1
      go_simp
      refine hK.out _ _ ?_ (fun hHeld' => ?_)
      ·exact S13.trans ⟨rfl, rfl, rfl, by simp [World.setCell], fun j _ hj => Below.heap_setCell w13 ⟨rcb, 1, none⟩ _ j (fun h => hj (.inl h))⟩
      clear hK K hHeld' e1 e2
      refine wpAnyH_done (by kernel_rfl) ?_ _
      refine name_set (Q := fun W => Exit.inBlock _ _ Exit.normal _ W) k13 ?_
      intro w14 k14 hk14 hs14 hl14
      have hG14 := hG.more (W12 := w12) (W13 := w13) (W14 := w14) (g := w10.heap.size) hpx' hrB ⟨[s0, s1, s2, s3, s4, s5, s6, s7, s8, s9, s10, s11, s12, s13, s14, s15, s16], by rw [HX.out, HY.out]; exact HR.out, by rw [HX.out, HY.out]; exact hb11⟩ (hl9.trans (L12.p _)) (by have := L10.size; have := hl9.size; omega) (by omega) hgr13 hown13 (by have := k14; rw [HS.out]; simpa [Int.sub_sub] using k14) hk14
      have hl14' : LatP (fun j => j = rcb ∨ B0 ≤ j) w8 w14 := (hlr.wider (fun j h => .inl h)).trans ((hl9.wider (fun j h => .inl h)).trans (S13.trans (hl14.wider (fun j h => .inl h))))
      clear hl14 hk14 k14 k13 S13 hgr13 hown13 hb11 hb12 L12 L11 L10 HR hHeld k9 hown9 hG hl9 D1
      go_wp2
      go_roundw
      case rel => exact ⟨k + 1, _, _, by omega, by go_num, hG14, hl14'.narrow hB0⟩
      case measure => simp [intOf]; omega
     ·go_simp
      refine (hW.ranked x y _ (by omega) (by omega) (by omega) (by omega)).mono ?_
      rintro e w10 ⟨S, rfl, hR, l10⟩
      obtain ⟨s0, s1, s2, s3, s4, s5, s6, s7, s8, s9, s10, s11, s12, s13, s14, s15, s16, rfl⟩ := list17 S (hW.len hR)
      have HR := Lib.hid hR
      have L10 : Lat w9 w10 := (Lat.drew w9).trans l10
      refine hK.out _ _ (L10.p _) (fun hHeld => ?_)
      clear hK K hR l10
      try simp only [Act.put, List.setIfInBounds_toArray, List.set_cons_zero, List.set_cons_succ]
      refine wpAnyH_take (i := 16) (v := .agg #[.int .i64 k, .int .i64 x, .int .i64 y, s0, s1, s2, s3, s4, s5, s6, s7, s8, s9, s10, s11, s12, s13, s14, s15, s16]) rfl (by kernel_rfl) (by kernel_rfl) (by kernel_rfl) (fun _ _ _ h => h) (Or.inl ⟨by rfl, by intro w' hS; go_simp⟩) hHeld ?_
      simp only [Act.put, List.setIfInBounds_toArray, List.set_cons_zero, List.set_cons_succ]
      refine wpAnyH_ready (rs := [1, 17]) (by kernel_rfl) (by simp) (AllReadyH.cons rfl (fun K hK => ?_) (AllReadyH.cons rfl (fun K hK => ?_) AllReadyH.nil))
      ·have e1 := (k9.later L10).cell 1
       go_simp
       clear e1
       refine hK.out _ _ hHeld (fun hHeld' => ?_)
       clear hK K hHeld'
       try simp only [Act.put, List.setIfInBounds_toArray, List.set_cons_zero, List.set_cons_succ]
       refine wpAnyH_ready (rs := [17]) (by kernel_rfl) (by simp) (AllReadyH.cons rfl (fun K hK => ?_) AllReadyH.nil)
       go_simp
       have hb11 := Blk.new w10 127 #[.int .i64 k, .int .i64 x, .int .i64 y, s0, s1, s2, s3, s4, s5, s6, s7, s8, s9, s10, s11, s12, s13, s14, s15, s16]
       have L11 := L10.trans (Lat.alloc w10 (.cells #[.int .i64 k, .int .i64 x, .int .i64 y, s0, s1, s2, s3, s4, s5, s6, s7, s8, s9, s10, s11, s12, s13, s14, s15, s16] 127))
       obtain ⟨w11, hw11⟩ : ∃ w11, w10.alloc (.cells #[.int .i64 k, .int .i64 x, .int .i64 y, s0, s1, s2, s3, s4, s5, s6, s7, s8, s9, s10, s11, s12, s13, s14, s15, s16] 127) = w11 := ⟨_, rfl⟩
       rw [hw11] at hb11 L11 ⊢
       clear hw11
       refine hK.out _ _ (L11.p _) (fun hHeld => ?_)
       clear hK K
       try simp only [Act.put, List.setIfInBounds_toArray, List.set_cons_zero, List.set_cons_succ]
       refine wpAnyH_ready (rs := [18]) (by kernel_rfl) (by simp) (AllReadyH.cons rfl (fun K hK => ?_) AllReadyH.nil)
       go_simp
       have hb12 := Blk.new w11 120 #[.pointer (some ⟨w10.heap.size, 0, none⟩)]
       have hb11 := hb11.alloc (.cells #[.pointer (some ⟨w10.heap.size, 0, none⟩)] 120)
       have L12 := L11.trans (Lat.alloc w11 (.cells #[.pointer (some ⟨w10.heap.size, 0, none⟩)] 120))
       obtain ⟨w12, hw12⟩ : ∃ w12, w11.alloc (.cells #[.pointer (some ⟨w10.heap.size, 0, none⟩)] 120) = w12 := ⟨_, rfl⟩
       rw [hw12] at hb11 hb12 L12 ⊢
       clear hw12
       refine hK.out _ _ (L12.p _) (fun hHeld => ?_)
       clear hK K
       try simp only [Act.put, List.setIfInBounds_toArray, List.set_cons_zero, List.set_cons_succ]
       refine wpAnyH_ready (rs := [19]) (by kernel_rfl) (by simp) (AllReadyH.cons rfl (fun K hK => ?_) AllReadyH.nil)
       refine step_pushV rfl _ _ 117 (by rfl) B0 120 120 (.pointer none) 8 Tryz.underlying117 infoPtr rfl (by decide) v (ptrs G (fullK P k)) [.pointer (some ⟨w10.heap.size, 0, none⟩)] (by simp [Value.oneCell']) w12 w11.heap.size (by rfl) (hown9.later L12) hb12 1 rfl (by decide) (by rfl) hlenG (by have := L12.size; have := hl9.size; omega) ?_
       intro v' w13 hown13 hgr13 _
       obtain ⟨A', nv, c', rfl⟩ := hown13.slice
       have S13 : LatP (fun j => j = rcb ∨ B0 ≤ j) w9 w13 := by
        refine (L12.p _).trans ⟨hgr13.os, hgr13.tape, hgr13.output, hgr13.size, fun j hj hn => hgr13.block j hj (fun h => hn (.inr ?_))⟩
        exact (hown9.at j h.symm).1
       have k13 : Blk w13 rcb 119 #[.int .i64 m, v, .int .i64 (seats - sk - y)] := by
        refine (hgr13.block rcb (k9.later L12).lt (fun h => ?_)).trans (k9.later L12)
        have := (hown9.at rcb h.symm).1; omega
       refine hK.out _ _ S13 (fun hHeld => ?_)
       clear hK K
       try simp only [Act.put, List.setIfInBounds_toArray, List.set_cons_zero, List.set_cons_succ]
       refine wpAnyH_take (i := 20) (v := .pointer (some ⟨rcb, 1, none⟩)) rfl (by kernel_rfl) (by kernel_rfl) (by kernel_rfl) (fun _ _ _ h => h) (Or.inl ⟨by rfl, by intro w' hS; go_simp⟩) hHeld ?_
       simp only [Act.put, List.setIfInBounds_toArray, List.set_cons_zero, List.set_cons_succ]
       refine wpAnyH_ready (rs := [21]) (by kernel_rfl) (by simp) (AllReadyH.cons rfl (fun K hK => ?_) AllReadyH.nil)
       have e1 := k13.cell 1
       have e2 := k13.frozen 1
       go_simp
       refine hK.out _ _ ?_ (fun hHeld' => ?_)
       ·exact S13.trans ⟨rfl, rfl, rfl, by simp [World.setCell], fun j _ hj => Below.heap_setCell w13 ⟨rcb, 1, none⟩ _ j (fun h => hj (.inl h))⟩
       clear hK K hHeld' e1 e2
       refine wpAnyH_done (by kernel_rfl) ?_ _
       refine name_set (Q := fun W => Exit.inBlock _ _ Exit.normal _ W) k13 ?_
       intro w14 k14 hk14 hs14 hl14
       have hG14 := hG.more (W12 := w12) (W13 := w13) (W14 := w14) (g := w10.heap.size) hpx' hrB ⟨[s0, s1, s2, s3, s4, s5, s6, s7, s8, s9, s10, s11, s12, s13, s14, s15, s16], by rw [HX.out, HY.out]; exact HR.out, by rw [HX.out, HY.out]; exact hb11⟩ (hl9.trans (L12.p _)) (by have := L10.size; have := hl9.size; omega) (by omega) hgr13 hown13 (by have := k14; rw [HS.out]; simpa [Int.sub_sub] using k14) hk14
       have hl14' : LatP (fun j => j = rcb ∨ B0 ≤ j) w8 w14 := (hlr.wider (fun j h => .inl h)).trans ((hl9.wider (fun j h => .inl h)).trans (S13.trans (hl14.wider (fun j h => .inl h))))
       clear hl14 hk14 k14 k13 S13 hgr13 hown13 hb11 hb12 L12 L11 L10 HR hHeld k9 hown9 hG hl9 D1
       go_wp2
       go_roundw
       case rel => exact ⟨k + 1, _, _, by omega, by go_num, hG14, hl14'.narrow hB0⟩
       case measure => simp [intOf]; omega
      ·go_simp
       have hb11 := Blk.new w10 127 #[.int .i64 k, .int .i64 x, .int .i64 y, s0, s1, s2, s3, s4, s5, s6, s7, s8, s9, s10, s11, s12, s13, s14, s15, s16]
       have L11 := L10.trans (Lat.alloc w10 (.cells #[.int .i64 k, .int .i64 x, .int .i64 y, s0, s1, s2, s3, s4, s5, s6, s7, s8, s9, s10, s11, s12, s13, s14, s15, s16] 127))
       obtain ⟨w11, hw11⟩ : ∃ w11, w10.alloc (.cells #[.int .i64 k, .int .i64 x, .int .i64 y, s0, s1, s2, s3, s4, s5, s6, s7, s8, s9, s10, s11, s12, s13, s14, s15, s16] 127) = w11 := ⟨_, rfl⟩
       rw [hw11] at hb11 L11 ⊢
       clear hw11
       refine hK.out _ _ (L11.p _) (fun hHeld => ?_)
       clear hK K
       try simp only [Act.put, List.setIfInBounds_toArray, List.set_cons_zero, List.set_cons_succ]
       refine wpAnyH_ready (rs := [1, 18]) (by kernel_rfl) (by simp) (AllReadyH.cons rfl (fun K hK => ?_) (AllReadyH.cons rfl (fun K hK => ?_) AllReadyH.nil))
       ·have e1 := (k9.later L11).cell 1
        go_simp
        clear e1
        refine hK.out _ _ hHeld (fun hHeld' => ?_)
        clear hK K hHeld'
        try simp only [Act.put, List.setIfInBounds_toArray, List.set_cons_zero, List.set_cons_succ]
        refine wpAnyH_ready (rs := [18]) (by kernel_rfl) (by simp) (AllReadyH.cons rfl (fun K hK => ?_) AllReadyH.nil)
        go_simp
        have hb12 := Blk.new w11 120 #[.pointer (some ⟨w10.heap.size, 0, none⟩)]
        have hb11 := hb11.alloc (.cells #[.pointer (some ⟨w10.heap.size, 0, none⟩)] 120)
        have L12 := L11.trans (Lat.alloc w11 (.cells #[.pointer (some ⟨w10.heap.size, 0, none⟩)] 120))
        obtain ⟨w12, hw12⟩ : ∃ w12, w11.alloc (.cells #[.pointer (some ⟨w10.heap.size, 0, none⟩)] 120) = w12 := ⟨_, rfl⟩
        rw [hw12] at hb11 hb12 L12 ⊢
        clear hw12
        refine hK.out _ _ (L12.p _) (fun hHeld => ?_)
        clear hK K
        try simp only [Act.put, List.setIfInBounds_toArray, List.set_cons_zero, List.set_cons_succ]
        refine wpAnyH_ready (rs := [19]) (by kernel_rfl) (by simp) (AllReadyH.cons rfl (fun K hK => ?_) AllReadyH.nil)
        refine step_pushV rfl _ _ 117 (by rfl) B0 120 120 (.pointer none) 8 Tryz.underlying117 infoPtr rfl (by decide) v (ptrs G (fullK P k)) [.pointer (some ⟨w10.heap.size, 0, none⟩)] (by simp [Value.oneCell']) w12 w11.heap.size (by rfl) (hown9.later L12) hb12 1 rfl (by decide) (by rfl) hlenG (by have := L12.size; have := hl9.size; omega) ?_
        intro v' w13 hown13 hgr13 _
        obtain ⟨A', nv, c', rfl⟩ := hown13.slice
        have S13 : LatP (fun j => j = rcb ∨ B0 ≤ j) w9 w13 := by
         refine (L12.p _).trans ⟨hgr13.os, hgr13.tape, hgr13.output, hgr13.size, fun j hj hn => hgr13.block j hj (fun h => hn (.inr ?_))⟩
         exact (hown9.at j h.symm).1
        have k13 : Blk w13 rcb 119 #[.int .i64 m, v, .int .i64 (seats - sk - y)] := by
         refine (hgr13.block rcb (k9.later L12).lt (fun h => ?_)).trans (k9.later L12)
         have := (hown9.at rcb h.symm).1; omega
        refine hK.out _ _ S13 (fun hHeld => ?_)
        clear hK K
        try simp only [Act.put, List.setIfInBounds_toArray, List.set_cons_zero, List.set_cons_succ]
        refine wpAnyH_take (i := 20) (v := .pointer (some ⟨rcb, 1, none⟩)) rfl (by kernel_rfl) (by kernel_rfl) (by kernel_rfl) (fun _ _ _ h => h) (Or.inl ⟨by rfl, by intro w' hS; go_simp⟩) hHeld ?_
        simp only [Act.put, List.setIfInBounds_toArray, List.set_cons_zero, List.set_cons_succ]
        refine wpAnyH_ready (rs := [21]) (by kernel_rfl) (by simp) (AllReadyH.cons rfl (fun K hK => ?_) AllReadyH.nil)
        have e1 := k13.cell 1
        have e2 := k13.frozen 1
        go_simp
        refine hK.out _ _ ?_ (fun hHeld' => ?_)
        ·exact S13.trans ⟨rfl, rfl, rfl, by simp [World.setCell], fun j _ hj => Below.heap_setCell w13 ⟨rcb, 1, none⟩ _ j (fun h => hj (.inl h))⟩
        clear hK K hHeld' e1 e2
        refine wpAnyH_done (by kernel_rfl) ?_ _
        refine name_set (Q := fun W => Exit.inBlock _ _ Exit.normal _ W) k13 ?_
        intro w14 k14 hk14 hs14 hl14
        have hG14 := hG.more (W12 := w12) (W13 := w13) (W14 := w14) (g := w10.heap.size) hpx' hrB ⟨[s0, s1, s2, s3, s4, s5, s6, s7, s8, s9, s10, s11, s12, s13, s14, s15, s16], by rw [HX.out, HY.out]; exact HR.out, by rw [HX.out, HY.out]; exact hb11⟩ (hl9.trans (L12.p _)) (by have := L10.size; have := hl9.size; omega) (by omega) hgr13 hown13 (by have := k14; rw [HS.out]; simpa [Int.sub_sub] using k14) hk14
        have hl14' : LatP (fun j => j = rcb ∨ B0 ≤ j) w8 w14 := (hlr.wider (fun j h => .inl h)).trans ((hl9.wider (fun j h => .inl h)).trans (S13.trans (hl14.wider (fun j h => .inl h))))
        clear hl14 hk14 k14 k13 S13 hgr13 hown13 hb11 hb12 L12 L11 L10 HR hHeld k9 hown9 hG hl9 D1
        go_wp2
        go_roundw
        case rel => exact ⟨k + 1, _, _, by omega, by go_num, hG14, hl14'.narrow hB0⟩
        case measure => simp [intOf]; omega
       ·go_simp
        have hb12 := Blk.new w11 120 #[.pointer (some ⟨w10.heap.size, 0, none⟩)]
        have hb11 := hb11.alloc (.cells #[.pointer (some ⟨w10.heap.size, 0, none⟩)] 120)
        have L12 := L11.trans (Lat.alloc w11 (.cells #[.pointer (some ⟨w10.heap.size, 0, none⟩)] 120))
        obtain ⟨w12, hw12⟩ : ∃ w12, w11.alloc (.cells #[.pointer (some ⟨w10.heap.size, 0, none⟩)] 120) = w12 := ⟨_, rfl⟩
        rw [hw12] at hb11 hb12 L12 ⊢
        clear hw12
        refine hK.out _ _ (L12.p _) (fun hHeld => ?_)
        clear hK K
        try simp only [Act.put, List.setIfInBounds_toArray, List.set_cons_zero, List.set_cons_succ]
        refine wpAnyH_ready (rs := [1]) (by kernel_rfl) (by simp) (AllReadyH.cons rfl (fun K hK => ?_) AllReadyH.nil)
        have e1 := (k9.later L12).cell 1
        go_simp
        clear e1
        refine hK.out _ _ hHeld (fun hHeld' => ?_)
        clear hK K hHeld'
        try simp only [Act.put, List.setIfInBounds_toArray, List.set_cons_zero, List.set_cons_succ]
        refine wpAnyH_ready (rs := [19]) (by kernel_rfl) (by simp) (AllReadyH.cons rfl (fun K hK => ?_) AllReadyH.nil)
        refine step_pushV rfl _ _ 117 (by rfl) B0 120 120 (.pointer none) 8 Tryz.underlying117 infoPtr rfl (by decide) v (ptrs G (fullK P k)) [.pointer (some ⟨w10.heap.size, 0, none⟩)] (by simp [Value.oneCell']) w12 w11.heap.size (by rfl) (hown9.later L12) hb12 1 rfl (by decide) (by rfl) hlenG (by have := L12.size; have := hl9.size; omega) ?_
        intro v' w13 hown13 hgr13 _
        obtain ⟨A', nv, c', rfl⟩ := hown13.slice
        have S13 : LatP (fun j => j = rcb ∨ B0 ≤ j) w9 w13 := by
         refine (L12.p _).trans ⟨hgr13.os, hgr13.tape, hgr13.output, hgr13.size, fun j hj hn => hgr13.block j hj (fun h => hn (.inr ?_))⟩
         exact (hown9.at j h.symm).1
        have k13 : Blk w13 rcb 119 #[.int .i64 m, v, .int .i64 (seats - sk - y)] := by
         refine (hgr13.block rcb (k9.later L12).lt (fun h => ?_)).trans (k9.later L12)
         have := (hown9.at rcb h.symm).1; omega
        refine hK.out _ _ S13 (fun hHeld => ?_)
        clear hK K
        try simp only [Act.put, List.setIfInBounds_toArray, List.set_cons_zero, List.set_cons_succ]
        refine wpAnyH_take (i := 20) (v := .pointer (some ⟨rcb, 1, none⟩)) rfl (by kernel_rfl) (by kernel_rfl) (by kernel_rfl) (fun _ _ _ h => h) (Or.inl ⟨by rfl, by intro w' hS; go_simp⟩) hHeld ?_
        simp only [Act.put, List.setIfInBounds_toArray, List.set_cons_zero, List.set_cons_succ]
        refine wpAnyH_ready (rs := [21]) (by kernel_rfl) (by simp) (AllReadyH.cons rfl (fun K hK => ?_) AllReadyH.nil)
        have e1 := k13.cell 1
        have e2 := k13.frozen 1
        go_simp
        refine hK.out _ _ ?_ (fun hHeld' => ?_)
        ·exact S13.trans ⟨rfl, rfl, rfl, by simp [World.setCell], fun j _ hj => Below.heap_setCell w13 ⟨rcb, 1, none⟩ _ j (fun h => hj (.inl h))⟩
        clear hK K hHeld' e1 e2
        refine wpAnyH_done (by kernel_rfl) ?_ _
        refine name_set (Q := fun W => Exit.inBlock _ _ Exit.normal _ W) k13 ?_
        intro w14 k14 hk14 hs14 hl14
        have hG14 := hG.more (W12 := w12) (W13 := w13) (W14 := w14) (g := w10.heap.size) hpx' hrB ⟨[s0, s1, s2, s3, s4, s5, s6, s7, s8, s9, s10, s11, s12, s13, s14, s15, s16], by rw [HX.out, HY.out]; exact HR.out, by rw [HX.out, HY.out]; exact hb11⟩ (hl9.trans (L12.p _)) (by have := L10.size; have := hl9.size; omega) (by omega) hgr13 hown13 (by have := k14; rw [HS.out]; simpa [Int.sub_sub] using k14) hk14
        have hl14' : LatP (fun j => j = rcb ∨ B0 ≤ j) w8 w14 := (hlr.wider (fun j h => .inl h)).trans ((hl9.wider (fun j h => .inl h)).trans (S13.trans (hl14.wider (fun j h => .inl h))))
        clear hl14 hk14 k14 k13 S13 hgr13 hown13 hb11 hb12 L12 L11 L10 HR hHeld k9 hown9 hG hl9 D1
        go_wp2
        go_roundw
        case rel => exact ⟨k + 1, _, _, by omega, by go_num, hG14, hl14'.narrow hB0⟩
        case measure => simp [intOf]; omega
    ·have hpx' : ¬ 0 < atI P k := by rw [HX.out]; exact hpx
     have hG9 := hG.skip hpx' hrB (W9 := w9) (by rw [HS.out]; simpa [Int.sub_sub] using k9) hl9
     have hl9'' := hlr.trans hl9
     clear k9 hl9 hG hcyW
     go_wp2
     go_roundw
     case rel => exact ⟨k + 1, G, v, by omega, by go_num, hG9, hl9''⟩
     case measure => simp [intOf]; omega
   ·obtain rfl : k = n := by omega
    have hnP : P.length = k := hs.1
    have hLzn : Lz.length = k := HLen.out
    have hrc := hG.rc
    rw [List.take_of_length_le (by omega)] at hrc
    obtain ⟨st, hst⟩ : ∃ st, Lz.sum = st := ⟨_, rfl⟩
    rw [hst] at hrc
    have HST := Lib.hid hst
    have hfk : fullK P k = full P := by rw [← hnP]; rfl
    have hC := full_ne HCen.out.2.2
    have hsb := sum_bound (xs := Lz) (fun z hz => by have := HIn.out z hz; omega)
    rw [hst] at hsb
    have b0 := hsb.1
    have b1 : st ≤ 1000000000000 := by have := hsb.2; omega
    have d2 := hrc.cell 2
    clear hst hsb
    by_cases hov : seats - st < 0
    ·have K2 := K8.keepP hlr (by omega)
     have K9 := K3.keepP hlr (by omega)
     have c2_0 := K2.cell 0
     have c2_1 := K2.cell 1
     have c2_2 := K2.cell 2
     have c9 := K9.cell 0
     have f2_0 := K2.frozen 0
     have f2_1 := K2.frozen 1
     have f2_2 := K2.frozen 2
     have f9 := K9.frozen 0
     go_wp2
     rw [Exit.noGoto_ret]
     refine leave_plain (v := .tuple #[.agg #[.slice none 0 0, .slice none 0 0, .int .i64 0], .slice none 0 0, .int .i64 2]) (by simp [results, Tryz.results42, go_sem, c2_0, c2_1, c2_2, c9]) ?_
     refine ⟨fun _ => ⟨rfl, ?_⟩, fun h => absurd (by rw [HLz.out, HST.out]; omega) h⟩
     iterate 4 (refine Lat.setCell ?_ (by simp; try omega) _)
     exact hlr.lat L8 (fun k h => by omega)
    ·have hls : 0 ≤ seats - st := by omega
     go_wp2
     refine name1 (Q := fun W => Code.wp _ _ _ _ W) ?_
     intro wt lt hst' kt
     go_step3
     go_wp2_with fail
     refine (seats_fn rcb wr.heap.size wt).mono ?_
     rintro e wu ⟨rfl, lu, kbr, kbt, hsu⟩
     have LU : Lat wr wu := lt.trans lu
     obtain ⟨Aall, cv, rfl, hrowA, hcapA, hblkA⟩ := hG.own.form
     have hbkA := hG.own.blk
     have hnl' : (ptrs G (fullK P k)).length ≤ 1000 := by rw [ptrs_length]; have := fullK_len P k; omega
     rw [hfk] at hrowA hnl' hrc
     obtain ⟨nv, hnv⟩ : ∃ nv, (ptrs G (full P)).length = nv := ⟨_, rfl⟩
     rw [hnv] at hrowA hnl' hrc
     have hM : Mem { G := G, C := full P, A := Aall, n := nv, c := cv, br := wt.heap.size, bt := wt.heap.size + 1, rc := rcb, td := wr.heap.size } m R P Lz (seats - st) (.slice none 0 0) wu :=
      ⟨kbr, kbt, hrc.later LU, kt.later lu, hrowA.later LU, fun i hi => (hG.cl i (by rw [hfk]; exact hi)).later LU⟩
     have hbkU : ∀ a, Aall = some a → ∃ cs, Blk wu a.block 120 cs := fun a e => by
      obtain ⟨cs, q⟩ := hbkA a e
      exact ⟨cs, q.later LU⟩
     have hApt := hM.apart hbkU (full_nodup P) (fun i j hi hj he => hG.inj i j (by rw [hfk]; exact hi) (by rw [hfk]; exact hj) he)
     have hPb : ∀ i ∈ full P, 1 ≤ atI P i ∧ atI P i ≤ 1000000000 := by
      intro i hi
      obtain ⟨h1, h2⟩ := mem_full.1 hi
      have h3 := HCen.out.2.1 (P[i]) (List.getElem_mem _)
      have h4 : atI P i = P[i] := atI_of (List.getElem?_eq_getElem h1)
      omega
     have hsm : Small (full P) Lz (seats - st) := by
      intro i hi
      obtain ⟨h1, h2⟩ := mem_full.1 hi
      have h3 := atI_le_sum (l := Lz) (fun x hx => (HIn.out x hx).1) i
      have h4 := HST.out
      exact ⟨h3.1, by omega, by omega⟩
     have hD0 : DeskIs { b5 := w.heap.size, b8 := w.heap.size + 1, b9 := w.heap.size + 1 + 1, sr := sr, cS := cS, n := k } wu.heap.size seats Lz (.slice none 0 0) [] wu :=
      ⟨(K1.keepP hlr (by omega)).later LU, (K8.keepP hlr (by omega)).later LU, (K3.keepP hlr (by omega)).later LU, (hrow.keepP hlr (by omega)).keepP (LU.p (fun _ => False)) (fun h => h), OwnV.nil _ _ _⟩
     have hnr : ∀ cur, Blk wu sr 3 cur → ¬ Site.mine { G := G, C := full P, A := Aall, n := nv, c := cv, br := wt.heap.size, bt := wt.heap.size + 1, rc := rcb, td := wr.heap.size } sr := fun cur h => hM.not_mine hbkU h (by decide) (by decide) (by decide) (by decide) (by decide) (by decide)
     have hz9 : w.heap.size + 1 + 1 < wu.heap.size := hD0.b9.lt
     have hsru : sr < wu.heap.size := by obtain ⟨cur, q, _⟩ := hD0.row; exact q.lt
     have hmw : ∀ q, Site.mine { G := G, C := full P, A := Aall, n := nv, c := cv, br := wt.heap.size, bt := wt.heap.size + 1, rc := rcb, td := wr.heap.size } q → w.heap.size ≤ q := by
      have z1 := lt.size
      have z2 := (hlr.lat L8 (fun k h => by omega)).size
      have z3 := L8.size
      rintro q (e | e | e | e | ⟨i, hi, e⟩ | ⟨a, ea, e⟩)
      ·have e' : q = wt.heap.size := e
       omega
      ·have e' : q = wt.heap.size + 1 := e
       omega
      ·have e' : q = rcb := e
       omega
      ·have e' : q = wr.heap.size := e
       omega
      ·have e' : q = G i := e
       have := hG.new i (by rw [hfk]; exact hi)
       omega
      ·have := (hblkA a ea).1
       omega
     have LWu : Lat w wu := (hlr.lat L8 (fun k h => by omega)).trans LU
     clear hrc d2 kbr kbt kt lt lu hrowA hcapA hblkA hbkA hnv hG K1 K8 K3 kr hrow hlr LU hfk
     go_wp2
     refine run_range (f := f) (A := awardOf f P Lz (seats - st)) hW hApt hC hnl' hPb (seats - st) (by omega) (by omega) hls (hM.mine_lt hbkU) (hM.not_mine hbkU hD0.b5 (by decide) (by decide) (by decide) (by decide) (by decide) (by decide)) (hM.not_mine hbkU hD0.b8 (by decide) (by decide) (by decide) (by decide) (by decide) (by decide))
      (hM.not_mine hbkU hD0.b9 (by decide) (by decide) (by decide) (by decide) (by decide) (by decide)) (by obtain ⟨cur, q, _⟩ := hD0.row; exact hnr cur q) Lz hsm hM rfl hD0 (by rfl) (by rfl) ?a1 ?hassign ?hbody ?hend
     case hassign =>
      intro l x W K hK
      refine round_region (fun ⟨_, _, h⟩ => h) rfl ?_
      rw [zip_one]
      simp only [List.size_toArray, List.length_cons, List.length_nil, List.foldl_toArray, List.foldl_cons, List.foldl_nil, List.setIfInBounds_toArray, List.set_cons_zero, List.set_cons_succ]
      go_wp2
      exact hK
     case hbody =>
      intro l S ov o i g cs W1 Qb hiS hoL hDk hgB hc0 hc2 hBW hno hpan hout
      obtain ⟨q, hq⟩ : ∃ q, atI S i + 1 = q := ⟨_, rfl⟩
      rw [hq] at hc2 hout
      have hin : i < k := by
       obtain ⟨_, _, _, h3, _⟩ := hDk.row
       have h3' : S.length = k := h3
       omega
      have hii : (i : Int) < (k : Int) := by omega
      refine wpIn_block ?_
      refine wpIn_seq ?_
      have hg_sr : ∀ cur, Blk W1 sr 3 cur → g ≠ sr := fun cur h => blk_ne hgB h (by decide)
      obtain ⟨cur, hcur, hcur2, hcur3, hcur4⟩ := hDk.row
      have hgsr := hg_sr cur hcur
      have h8sr : w.heap.size + 1 ≠ sr := blk_ne hDk.b8 hcur (by decide)
      refine round_region_held (S := fun w' => LatP (· = sr) W1 w') (fun ⟨a', w', h⟩ => hno ⟨a', w', h⟩) (by kernel_rfl) rfl ((Lat.drew W1).p _) (fun hHeld => ?_)
      have D1 : ∀ w', LatP (· = sr) W1 w' → w'.cell? ⟨w.heap.size + 1, 0, none⟩ = some (.slice (some ⟨sr, 0, none⟩) k cS) := fun w' h => (hDk.b8.keepP h h8sr).cell 0
      have D2 : ∀ w', LatP (· = sr) W1 w' → w'.cell? ⟨g, 0, none⟩ = some (.int .i64 (i : Int)) := fun w' h => ((hgB.keepP h hgsr).cell 0).trans hc0
      have D3 : ∀ w', LatP (· = sr) W1 w' → w'.cell? ⟨g, 2, none⟩ = some (.int .i64 q) := fun w' h => ((hgB.keepP h hgsr).cell 2).trans hc2
      refine wpAnyH_take (i := 0) (v := .pointer (some ⟨w.heap.size + 1, 0, none⟩)) rfl (by kernel_rfl) (by kernel_rfl) (by kernel_rfl) (fun c _ w' h => (hpan c _ w' h).elim) (Or.inl ⟨by rfl, by intro w' hS; go_simp⟩) hHeld ?_
      simp only [Act.put, List.setIfInBounds_toArray, List.set_cons_zero, List.set_cons_succ]
      refine wpAnyH_take (i := 1) (v := .slice (some ⟨sr, 0, none⟩) k cS) rfl (by kernel_rfl) (by kernel_rfl) (by kernel_rfl) (fun c _ w' h => (hpan c _ w' h).elim) (Or.inl ⟨by rfl, by intro w' hS; have hc := D1 w' hS; go_simp⟩) hHeld ?_
      simp only [Act.put, List.setIfInBounds_toArray, List.set_cons_zero, List.set_cons_succ]
      refine wpAnyH_take (i := 2) (v := .pointer (some ⟨g, 0, none⟩)) rfl (by kernel_rfl) (by kernel_rfl) (by kernel_rfl) (fun c _ w' h => (hpan c _ w' h).elim) (Or.inl ⟨by rfl, by intro w' hS; go_simp⟩) hHeld ?_
      simp only [Act.put, List.setIfInBounds_toArray, List.set_cons_zero, List.set_cons_succ]
      refine wpAnyH_take (i := 3) (v := .pointer (some ⟨g, 0, none⟩)) rfl (by kernel_rfl) (by kernel_rfl) (by kernel_rfl) (fun c _ w' h => (hpan c _ w' h).elim) (Or.inl ⟨by rfl, by intro w' hS; go_simp⟩) hHeld ?_
      simp only [Act.put, List.setIfInBounds_toArray, List.set_cons_zero, List.set_cons_succ]
      refine wpAnyH_take (i := 4) (v := .pointer (some ⟨g, 0, none⟩)) rfl (by kernel_rfl) (by kernel_rfl) (by kernel_rfl) (fun c _ w' h => (hpan c _ w' h).elim) (Or.inl ⟨by rfl, by intro w' hS; go_simp⟩) hHeld ?_
      simp only [Act.put, List.setIfInBounds_toArray, List.set_cons_zero, List.set_cons_succ]
      refine wpAnyH_take (i := 5) (v := .pointer (some ⟨g, 0, none⟩)) rfl (by kernel_rfl) (by kernel_rfl) (by kernel_rfl) (fun c _ w' h => (hpan c _ w' h).elim) (Or.inl ⟨by rfl, by intro w' hS; go_simp⟩) hHeld ?_
      simp only [Act.put, List.setIfInBounds_toArray, List.set_cons_zero, List.set_cons_succ]
      refine wpAnyH_take (i := 6) (v := .int .i64 i) rfl (by kernel_rfl) (by kernel_rfl) (by kernel_rfl) (fun c _ w' h => (hpan c _ w' h).elim) (Or.inl ⟨by rfl, by intro w' hS; have hc := D2 w' hS; go_simp⟩) hHeld ?_
      simp only [Act.put, List.setIfInBounds_toArray, List.set_cons_zero, List.set_cons_succ]
      refine wpAnyH_take (i := 7) (v := .pointer (some ⟨g, 0, none⟩)) rfl (by kernel_rfl) (by kernel_rfl) (by kernel_rfl) (fun c _ w' h => (hpan c _ w' h).elim) (Or.inl ⟨by rfl, by intro w' hS; go_simp⟩) hHeld ?_
      simp only [Act.put, List.setIfInBounds_toArray, List.set_cons_zero, List.set_cons_succ]
      refine wpAnyH_take (i := 8) (v := .pointer (some ⟨g, 0, none⟩)) rfl (by kernel_rfl) (by kernel_rfl) (by kernel_rfl) (fun c _ w' h => (hpan c _ w' h).elim) (Or.inl ⟨by rfl, by intro w' hS; go_simp⟩) hHeld ?_
      simp only [Act.put, List.setIfInBounds_toArray, List.set_cons_zero, List.set_cons_succ]
      refine wpAnyH_take (i := 9) (v := .pointer (some ⟨g, 2, none⟩)) rfl (by kernel_rfl) (by kernel_rfl) (by kernel_rfl) (fun c _ w' h => (hpan c _ w' h).elim) (Or.inl ⟨by rfl, by intro w' hS; go_simp⟩) hHeld ?_
      simp only [Act.put, List.setIfInBounds_toArray, List.set_cons_zero, List.set_cons_succ]
      refine wpAnyH_take (i := 10) (v := .int .i64 q) rfl (by kernel_rfl) (by kernel_rfl) (by kernel_rfl) (fun c _ w' h => (hpan c _ w' h).elim) (Or.inl ⟨by rfl, by intro w' hS; have hc := D3 w' hS; go_simp⟩) hHeld ?_
      simp only [Act.put, List.setIfInBounds_toArray, List.set_cons_zero, List.set_cons_succ]
      refine wpAnyH_take (i := 11) (v := .pointer (some ⟨sr, i, none⟩)) rfl (by kernel_rfl) (by kernel_rfl) (by kernel_rfl) (fun c _ w' h => (hpan c _ w' h).elim) (Or.inl ⟨by rfl, by intro w' hS; go_simp⟩) hHeld ?_
      simp only [Act.put, List.setIfInBounds_toArray, List.set_cons_zero, List.set_cons_succ]
      refine wpAnyH_ready (rs := [12]) (by kernel_rfl) (by simp) (AllReadyH.cons rfl (fun K hK => ?_) AllReadyH.nil)
      have hci : cur[i]? = some cur[i] := Array.getElem?_eq_getElem (by omega)
      have e1 : W1.cell? ⟨sr, i, none⟩ = some cur[i] := (hcur.cell i).trans hci
      have e2 := hcur.frozen i
      go_simp
      have hlS : LatP (· = sr) W1 (W1.drew.setCell ⟨sr, i, none⟩ (.int .i64 q)) := ((Lat.drew W1).p _).trans ⟨rfl, rfl, rfl, by simp [World.setCell], fun j _ hj => Below.heap_setCell W1.drew ⟨sr, i, none⟩ _ j hj⟩
      refine hK.out _ _ hlS (fun hHeld2 => ?_)
      clear hK K hHeld2 hlS e1 e2 D1 D2 D3 hHeld hci
      refine wpAnyH_done (by kernel_rfl) ?_ _
      refine name_set (Q := fun W => Exit.then _ _ Exit.normal _ W) (hcur.later (Lat.drew W1)) ?_
      intro W3 kcur hk3 hs3 hl3'
      have hl13 : LatP (· = sr) W1 W3 := ((Lat.drew W1).p _).trans hl3'
      have hrow3 : RowN W3 sr k (S.set i q) := ⟨_, kcur, by rw [Array.toList_setIfInBounds, List.take_set, hcur2, List.map_set], by simpa using hcur3, by simpa using hcur4⟩
      have h9sr : w.heap.size + 1 + 1 ≠ sr := blk_ne hDk.b9 hcur (by decide)
      have hsr9 : sr ≠ w.heap.size + 1 + 1 := Ne.symm h9sr
      have h5sr : w.heap.size ≠ sr := by omega
      have hb53 : Blk W3 w.heap.size 3 #[.int .i64 seats] := hDk.b5.keepP hl13 h5sr
      have hb83 : Blk W3 (w.heap.size + 1) 47 #[.slice (some ⟨sr, 0, none⟩) k cS, .slice none 0 0, .int .i64 0] := hDk.b8.keepP hl13 h8sr
      have kb9 : Blk W3 (w.heap.size + 1 + 1) 29 #[ov] := hDk.b9.keepP hl13 h9sr
      have hown3 : OwnV W3 wu.heap.size 3 ov (nats o) := hDk.own.kept' hl13 (fun q' hq' h => by have := (hDk.own.at q' hq').1; omega)
      have hgB3 := hgB.keepP hl13 hgsr
      have hBW3 : wu.heap.size ≤ W3.heap.size := by have := hl13.size; omega
      have hg9 : g ≠ w.heap.size + 1 + 1 := blk_ne hgB3 kb9 (by decide)
      have hgo : some g ≠ ov.ownBlock := fun h => by obtain ⟨_, _, cs', h3⟩ := hown3.at _ h.symm; exact blk_ne hgB3 h3 (by decide) rfl
      clear hk3 hs3 hl3' hDk hgB hcur hcur2 hcur3 hcur4 kcur hg_sr hc2
      refine wpIn_seq ?_
      refine round_region_held (S := fun w' => LatP (fun j => j = w.heap.size + 1 + 1 ∨ some j = ov.ownBlock) W3 w') (fun ⟨a', w', h⟩ => hno ⟨a', w', h⟩) (by kernel_rfl) rfl ((Lat.drew W3).p _) (fun hHeld => ?_)
      have Ld : Lat W3 W3.drew := Lat.drew W3
      obtain ⟨Wd, hWd⟩ : ∃ Wd, W3.drew = Wd := ⟨_, rfl⟩
      rw [hWd] at hHeld Ld ⊢
      clear hWd
      have D2 : ∀ w', LatP (fun j => j = w.heap.size + 1 + 1 ∨ some j = ov.ownBlock) W3 w' → w'.cell? ⟨g, 0, none⟩ = some (.int .i64 (i : Int)) := fun w' h => ((hgB3.keepP h (fun h => by rcases h with h | h; exact hg9 h; exact hgo h)).cell 0).trans hc0
      refine wpAnyH_take (i := 1) (v := .pointer (some ⟨g, 0, none⟩)) rfl (by kernel_rfl) (by kernel_rfl) (by kernel_rfl) (fun c _ w' h => (hpan c _ w' h).elim) (Or.inl ⟨by rfl, by intro w' hS; go_simp⟩) hHeld ?_
      simp only [Act.put, List.setIfInBounds_toArray, List.set_cons_zero, List.set_cons_succ]
      refine wpAnyH_take (i := 2) (v := .pointer (some ⟨g, 0, none⟩)) rfl (by kernel_rfl) (by kernel_rfl) (by kernel_rfl) (fun c _ w' h => (hpan c _ w' h).elim) (Or.inl ⟨by rfl, by intro w' hS; go_simp⟩) hHeld ?_
      simp only [Act.put, List.setIfInBounds_toArray, List.set_cons_zero, List.set_cons_succ]
      refine wpAnyH_take (i := 3) (v := .pointer (some ⟨g, 0, none⟩)) rfl (by kernel_rfl) (by kernel_rfl) (by kernel_rfl) (fun c _ w' h => (hpan c _ w' h).elim) (Or.inl ⟨by rfl, by intro w' hS; go_simp⟩) hHeld ?_
      simp only [Act.put, List.setIfInBounds_toArray, List.set_cons_zero, List.set_cons_succ]
      refine wpAnyH_take (i := 4) (v := .pointer (some ⟨g, 0, none⟩)) rfl (by kernel_rfl) (by kernel_rfl) (by kernel_rfl) (fun c _ w' h => (hpan c _ w' h).elim) (Or.inl ⟨by rfl, by intro w' hS; go_simp⟩) hHeld ?_
      simp only [Act.put, List.setIfInBounds_toArray, List.set_cons_zero, List.set_cons_succ]
      refine wpAnyH_take (i := 5) (v := .int .i64 i) rfl (by kernel_rfl) (by kernel_rfl) (by kernel_rfl) (fun c _ w' h => (hpan c _ w' h).elim) (Or.inl ⟨by rfl, by intro w' hS; have hc := D2 w' hS; go_simp⟩) hHeld ?_
      simp only [Act.put, List.setIfInBounds_toArray, List.set_cons_zero, List.set_cons_succ]
      refine wpAnyH_ready (rs := [0, 6]) (by kernel_rfl) (by simp) (AllReadyH.cons rfl (fun K hK => ?_) (AllReadyH.cons rfl (fun K hK => ?_) AllReadyH.nil))
      ·have e1 := (kb9.later Ld).cell 0
       go_simp
       clear e1
       refine hK.out _ _ hHeld (fun hHeld' => ?_)
       clear hK K hHeld'
       try simp only [Act.put, List.setIfInBounds_toArray, List.set_cons_zero, List.set_cons_succ]
       refine wpAnyH_ready (rs := [6]) (by kernel_rfl) (by simp) (AllReadyH.cons rfl (fun K hK => ?_) AllReadyH.nil)
       go_simp
       have hb3 := Blk.new Wd 3 #[.int .i64 (i : Int)]
       have L3 : Lat W3 (Wd.alloc (.cells #[.int .i64 (i : Int)] 3)) := Ld.trans (Lat.alloc _ _)
       obtain ⟨W4, hW4⟩ : ∃ W4, Wd.alloc (.cells #[.int .i64 (i : Int)] 3) = W4 := ⟨_, rfl⟩
       rw [hW4] at hb3 L3 ⊢
       clear hW4
       refine hK.out _ _ (L3.p _) (fun hHeld => ?_)
       clear hK K
       try simp only [Act.put, List.setIfInBounds_toArray, List.set_cons_zero, List.set_cons_succ]
       refine wpAnyH_ready (rs := [7]) (by kernel_rfl) (by simp) (AllReadyH.cons rfl (fun K hK => ?_) AllReadyH.nil)
       refine step_pushV rfl _ _ 29 (by rfl) wu.heap.size 3 3 (.int .i64 0) 8 Tryz.underlying29 infoInt rfl (by decide) ov (nats o) [.int .i64 (i : Int)] (by simp [Value.oneCell']) W4 Wd.heap.size (by rfl) (hown3.later L3) hb3 1 rfl (by decide) (by rfl) (by rw [nats_length]; omega) (by have := L3.size; omega) ?_
       intro ov' W5 hown5 hgr5 _
       have S5 : LatP (fun j => j = w.heap.size + 1 + 1 ∨ some j = ov.ownBlock) W3 W5 := (L3.p _).trans ⟨hgr5.os, hgr5.tape, hgr5.output, hgr5.size, fun j hj hn => hgr5.block j hj (fun h => hn (.inr h))⟩
       have kb95 : Blk W5 (w.heap.size + 1 + 1) 29 #[ov] := (hgr5.block _ (kb9.later L3).lt (fun h => by obtain ⟨_, _, cs', h3⟩ := (hown3.later L3).at _ h.symm; exact blk_ne (kb9.later L3) h3 (by decide) rfl)).trans (kb9.later L3)
       obtain ⟨A', nv', c', rfl⟩ := hown5.slice
       refine hK.out _ _ S5 (fun hHeld => ?_)
       clear hK K
       try simp only [Act.put, List.setIfInBounds_toArray, List.set_cons_zero, List.set_cons_succ]
       refine wpAnyH_ready (rs := [8]) (by kernel_rfl) (by simp) (AllReadyH.cons rfl (fun K hK => ?_) AllReadyH.nil)
       have e1 := kb95.cell 0
       have e2 := kb95.frozen 0
       go_simp
       refine hK.out _ _ ?_ (fun hHeld' => ?_)
       ·exact S5.trans ⟨rfl, rfl, rfl, by simp [World.setCell], fun j _ hj => Below.heap_setCell W5 ⟨w.heap.size + 1 + 1, 0, none⟩ _ j (fun h => hj (.inl h))⟩
       clear hK K hHeld' e1 e2
       refine wpAnyH_done (by kernel_rfl) ?_ _
       refine name_set (Q := fun W => Exit.then _ _ Exit.normal _ W) kb95 ?_
       intro W6 kb96 hk6 hs6 hl6
       have own6 := hown5.kept (fun q hq => hk6 q (fun h => by subst h; obtain ⟨_, _, cs', h3⟩ := hown5.at _ hq; exact blk_ne kb95 h3 (by decide) rfl))
       have hl36 : LatP (fun j => j = w.heap.size + 1 + 1 ∨ some j = ov.ownBlock) W3 W6 := S5.trans (hl6.wider (fun j h => .inl h))
       have hlen6 := hown5.len
       have kb5 := hb53.keepP hl36 (fun h => by rcases h with h | h; exact blk_ne hb53 kb9 (by decide) h; have := (hown3.at _ h.symm).1; omega)
       have kb8 := hb83.keepP hl36 (fun h => by rcases h with h | h; exact blk_ne hb83 kb9 (by decide) h; have := (hown3.at _ h.symm).1; omega)
       have krw := hrow3.keepP hl36 (fun h => by rcases h with h | h; exact hsr9 h; have := (hown3.at _ h.symm).1; omega)
       have hD6 : DeskIs { b5 := w.heap.size, b8 := w.heap.size + 1, b9 := w.heap.size + 1 + 1, sr := sr, cS := cS, n := k } wu.heap.size seats (S.set i q) (.slice A' nv' c') (o ++ [i]) W6 := ⟨kb5, kb8, kb96, krw, by rw [nats_snoc]; exact own6⟩
       have hO := Lib.hid (hout W6 _ hD6 ((hl13.wider (fun j h => .inl h)).trans (hl36.wider (fun j h => .inr h))))
       have c9 := kb96.cell 0
       have c5 := kb5.cell 0
       rw [List.length_append, nats_length] at hlen6
       have hlen7 : nv' = o.length + 1 := hlen6
       clear hlen6 hout kb5 kb8 krw kb96 own6 hk6 hl6 hD6 hl36 hown5 hgr5 S5 kb95 hb3 hrow3 hb53 hb83 hown3 kb9
       refine wpIn_seq ?_
       refine round_region (fun ⟨a', w', h⟩ => hno ⟨a', w', h⟩) rfl ?_
       by_cases hse : (o.length : Int) + 1 = seats
       ·have hbq : ((nv' : Int) == seats) = true := by rw [beq_iff_eq]; omega
        have HF := Lib.hid (hO.out.1 hse)
        clear hse hlen7 hO
        go_wp2
        exact wpIn_cond_true rfl (wpIn_exit (HF.out _))
       ·have hbq : ((nv' : Int) == seats) = false := by rw [beq_eq_false_iff_ne]; omega
        have HF := Lib.hid (hO.out.2 hse)
        clear hse hlen7 hO
        go_wp2
        exact wpIn_cond_false rfl (wpIn_skip (HF.out _))
      ·go_simp
       have hb3 := Blk.new Wd 3 #[.int .i64 (i : Int)]
       have L3 : Lat W3 (Wd.alloc (.cells #[.int .i64 (i : Int)] 3)) := Ld.trans (Lat.alloc _ _)
       obtain ⟨W4, hW4⟩ : ∃ W4, Wd.alloc (.cells #[.int .i64 (i : Int)] 3) = W4 := ⟨_, rfl⟩
       rw [hW4] at hb3 L3 ⊢
       clear hW4
       refine hK.out _ _ (L3.p _) (fun hHeld => ?_)
       clear hK K
       try simp only [Act.put, List.setIfInBounds_toArray, List.set_cons_zero, List.set_cons_succ]
       refine wpAnyH_ready (rs := [0]) (by kernel_rfl) (by simp) (AllReadyH.cons rfl (fun K hK => ?_) AllReadyH.nil)
       have e1 := (kb9.later L3).cell 0
       go_simp
       clear e1
       refine hK.out _ _ hHeld (fun hHeld' => ?_)
       clear hK K hHeld'
       try simp only [Act.put, List.setIfInBounds_toArray, List.set_cons_zero, List.set_cons_succ]
       refine wpAnyH_ready (rs := [7]) (by kernel_rfl) (by simp) (AllReadyH.cons rfl (fun K hK => ?_) AllReadyH.nil)
       refine step_pushV rfl _ _ 29 (by rfl) wu.heap.size 3 3 (.int .i64 0) 8 Tryz.underlying29 infoInt rfl (by decide) ov (nats o) [.int .i64 (i : Int)] (by simp [Value.oneCell']) W4 Wd.heap.size (by rfl) (hown3.later L3) hb3 1 rfl (by decide) (by rfl) (by rw [nats_length]; omega) (by have := L3.size; omega) ?_
       intro ov' W5 hown5 hgr5 _
       have S5 : LatP (fun j => j = w.heap.size + 1 + 1 ∨ some j = ov.ownBlock) W3 W5 := (L3.p _).trans ⟨hgr5.os, hgr5.tape, hgr5.output, hgr5.size, fun j hj hn => hgr5.block j hj (fun h => hn (.inr h))⟩
       have kb95 : Blk W5 (w.heap.size + 1 + 1) 29 #[ov] := (hgr5.block _ (kb9.later L3).lt (fun h => by obtain ⟨_, _, cs', h3⟩ := (hown3.later L3).at _ h.symm; exact blk_ne (kb9.later L3) h3 (by decide) rfl)).trans (kb9.later L3)
       obtain ⟨A', nv', c', rfl⟩ := hown5.slice
       refine hK.out _ _ S5 (fun hHeld => ?_)
       clear hK K
       try simp only [Act.put, List.setIfInBounds_toArray, List.set_cons_zero, List.set_cons_succ]
       refine wpAnyH_ready (rs := [8]) (by kernel_rfl) (by simp) (AllReadyH.cons rfl (fun K hK => ?_) AllReadyH.nil)
       have e1 := kb95.cell 0
       have e2 := kb95.frozen 0
       go_simp
       refine hK.out _ _ ?_ (fun hHeld' => ?_)
       ·exact S5.trans ⟨rfl, rfl, rfl, by simp [World.setCell], fun j _ hj => Below.heap_setCell W5 ⟨w.heap.size + 1 + 1, 0, none⟩ _ j (fun h => hj (.inl h))⟩
       clear hK K hHeld' e1 e2
       refine wpAnyH_done (by kernel_rfl) ?_ _
       refine name_set (Q := fun W => Exit.then _ _ Exit.normal _ W) kb95 ?_
       intro W6 kb96 hk6 hs6 hl6
       have own6 := hown5.kept (fun q hq => hk6 q (fun h => by subst h; obtain ⟨_, _, cs', h3⟩ := hown5.at _ hq; exact blk_ne kb95 h3 (by decide) rfl))
       have hl36 : LatP (fun j => j = w.heap.size + 1 + 1 ∨ some j = ov.ownBlock) W3 W6 := S5.trans (hl6.wider (fun j h => .inl h))
       have hlen6 := hown5.len
       have kb5 := hb53.keepP hl36 (fun h => by rcases h with h | h; exact blk_ne hb53 kb9 (by decide) h; have := (hown3.at _ h.symm).1; omega)
       have kb8 := hb83.keepP hl36 (fun h => by rcases h with h | h; exact blk_ne hb83 kb9 (by decide) h; have := (hown3.at _ h.symm).1; omega)
       have krw := hrow3.keepP hl36 (fun h => by rcases h with h | h; exact hsr9 h; have := (hown3.at _ h.symm).1; omega)
       have hD6 : DeskIs { b5 := w.heap.size, b8 := w.heap.size + 1, b9 := w.heap.size + 1 + 1, sr := sr, cS := cS, n := k } wu.heap.size seats (S.set i q) (.slice A' nv' c') (o ++ [i]) W6 := ⟨kb5, kb8, kb96, krw, by rw [nats_snoc]; exact own6⟩
       have hO := Lib.hid (hout W6 _ hD6 ((hl13.wider (fun j h => .inl h)).trans (hl36.wider (fun j h => .inr h))))
       have c9 := kb96.cell 0
       have c5 := kb5.cell 0
       rw [List.length_append, nats_length] at hlen6
       have hlen7 : nv' = o.length + 1 := hlen6
       clear hlen6 hout kb5 kb8 krw kb96 own6 hk6 hl6 hD6 hl36 hown5 hgr5 S5 kb95 hb3 hrow3 hb53 hb83 hown3 kb9
       refine wpIn_seq ?_
       refine round_region (fun ⟨a', w', h⟩ => hno ⟨a', w', h⟩) rfl ?_
       by_cases hse : (o.length : Int) + 1 = seats
       ·have hbq : ((nv' : Int) == seats) = true := by rw [beq_iff_eq]; omega
        have HF := Lib.hid (hO.out.1 hse)
        clear hse hlen7 hO
        go_wp2
        exact wpIn_cond_true rfl (wpIn_exit (HF.out _))
       ·have hbq : ((nv' : Int) == seats) = false := by rw [beq_eq_false_iff_ne]; omega
        have HF := Lib.hid (hO.out.2 hse)
        clear hse hlen7 hO
        go_wp2
        exact wpIn_cond_false rfl (wpIn_skip (HF.out _))
     case hend =>
      intro x D W2 tv ov lv hDD hK hM2 hT hlv hD2 hl2
      have hAt := award_tied (f := f) (P := P) (C := full P) (seats - st).toNat Lz (seats - st) []
      have hAw0 : award f P (full P) (seats - st).toNat Lz (seats - st) [] = awardOf f P Lz (seats - st) := rfl
      rw [hAw0] at hAt
      obtain ⟨Aw, hAw⟩ : ∃ Aw, awardOf f P Lz (seats - st) = Aw := ⟨_, rfl⟩
      rw [hAw] at hM2 hT hlv hD2 hAt
      have HAw := Lib.hid hAw
      have kb8 : Blk W2 (w.heap.size + 1) 47 #[.slice (some ⟨sr, 0, none⟩) k cS, .slice none 0 0, .int .i64 0] := hD2.b8
      have kb9 : Blk W2 (w.heap.size + 1 + 1) 29 #[ov] := hD2.b9
      have hrw : RowN W2 sr k Aw.seats := hD2.row
      have hown : OwnV W2 wu.heap.size 3 ov (nats Aw.order) := hD2.own
      have krc : Blk W2 rcb 119 #[.int .i64 m, .slice Aall nv cv, .int .i64 lv] := hM2.rc
      have hcl : ∀ i, i ∈ full P → Cl R W2 (G i) i (atI P i) (atI Aw.seats i) := hM2.cl
      obtain ⟨At, ct, rfl, hrowT⟩ := hT
      have hrowT : Row W2 At Aw.tied.length (ptrs G Aw.tied) := hrowT
      have ktd : Blk W2 wr.heap.size 117 #[.slice At Aw.tied.length ct] := hM2.td
      have LW2 : Lat w W2 := hl2.lat LWu (fun q h => by
       rcases h with h | h | h
       ·exact hmw q h
       ·have h' : q = sr := h
        omega
       ·have h' : q = w.heap.size + 1 + 1 := h
        omega)
      have hs2 := hl2.size
      have hT8 : 0 < Aw.tied.length → ∀ a, At = some a → a.block ≠ w.heap.size + 1 := fun h0 => row_ne hrowT h0 kb8 (fun o p => by
       rcases o with _ | _ | _ | o <;> simp)
      have htl : Aw.tied.length ≤ 1000 := by have h1 := hAt.2.2; have h2 : (full P).length ≤ P.length := fullK_len P P.length; omega
      have HAT := Lib.hid hAt
      have HLV := Lib.hid hlv
      clear hM2 hD2 hl2 hAw hAw0 hAt hlv
      refine inBlock_either ?_
      dsimp only
      have c15 := ktd.cell 0
      go_wp2
      obtain ⟨wo, rfl⟩ : ∃ wo : World, wo = wr := ⟨_, rfl⟩
      go_loopw [130] (fun i wx => ∃ (j : Nat) (tv' : Value), j ≤ Aw.tied.length ∧ i = .int .i64 j ∧ Blk wx (w.heap.size + 1) 47 #[.slice (some ⟨sr, 0, none⟩) k cS, tv', .int .i64 0] ∧ OwnV wx W2.heap.size 3 tv' (nats (Aw.tied.take j)) ∧ LatP (· = w.heap.size + 1) W2 wx) (fun i _ => Aw.tied.length - (intOf i).toNat)
      case atStart => exact ⟨0, .slice none 0 0, Nat.zero_le _, rfl, kb8, OwnV.nil _ _ _, LatP.refl _ _⟩
      case round =>
       obtain ⟨j, tv', hj, rfl, kx8, hox, hlx⟩ := hrel
       clear c15
       have hsx := hlx.size
       have hb8W := kb8.lt
       by_cases hlt : j < Aw.tied.length
       ·obtain ⟨a, u, rfl, ha, hu, hcell⟩ := hrowT.at hlt
        obtain ⟨i, hti, rfl⟩ := ptrs_get hu
        have hiF := HAT.out.1 i (List.mem_of_getElem? hti)
        obtain ⟨csG, kG⟩ : ∃ T : List Value, Blk W2 (G i) 127 (.int .i64 (i : Int) :: .int .i64 (atI P i) :: .int .i64 (atI Aw.seats i) :: T).toArray := by
         obtain ⟨T, _, q⟩ := hcl i hiF
         exact ⟨T, q⟩
        have hcx : wr.cell? (a.add j) = some (.pointer (some ⟨G i, 0, none⟩)) := by
         rw [show some (.pointer (some ⟨G i, 0, none⟩)) = W2.cell? (a.add j) from hcell.symm]
         exact World.cell?_of_block (hlx.block _ (by rw [block_add]; exact ha) (by rw [block_add]; exact hT8 (by omega) a rfl))
        have hG8 : G i ≠ w.heap.size + 1 := blk_ne kG kb8 (by decide)
        have HTK : Hid (Aw.tied.take (j + 1) = Aw.tied.take j ++ [i]) := by
         show _ = _
         obtain ⟨hl, rfl⟩ := List.getElem?_eq_some_iff.1 hti
         rw [List.take_succ_eq_append_getElem hl]
        have hji : (j : Int) < (Aw.tied.length : Int) := by omega
        clear hu hcell hti
        go_upto_region 30 with (fail)
        have Ld : Lat wr wr.drew := Lat.drew wr
        refine wp_region_held_drew (S := fun w' => LatP (fun q => q = w.heap.size + 1 ∨ W2.heap.size ≤ q) wr w') (by kernel_rfl) (Ld.p _) (fun hHeld => ?_)
        obtain ⟨Wd, hWd⟩ : ∃ Wd, wr.drew = Wd := ⟨_, rfl⟩
        rw [hWd] at hHeld Ld ⊢
        clear hWd
        have D1 : ∀ w', LatP (fun q => q = w.heap.size + 1 ∨ W2.heap.size ≤ q) wr w' → w'.cell? ⟨G i, 0, none⟩ = some (.int .i64 (i : Int)) := fun w' h => by
         have := ((kG.keepP hlx hG8).keepP h (fun h => by rcases h with h | h; exact hG8 h; have := kG.lt; omega)).cell 0
         simpa using this
        refine wpAnyH_take (i := 0) (v := .pointer (some ⟨w.heap.size + 1, 1, none⟩)) rfl (by kernel_rfl) (by kernel_rfl) (by kernel_rfl) (fun _ _ _ h => h) (Or.inl ⟨by rfl, by intro w' hS; go_simp⟩) hHeld ?_
        simp only [Act.put, List.setIfInBounds_toArray, List.set_cons_zero, List.set_cons_succ]
        refine wpAnyH_take (i := 2) (v := .pointer (some ⟨G i, 0, none⟩)) rfl (by kernel_rfl) (by kernel_rfl) (by kernel_rfl) (fun _ _ _ h => h) (Or.inl ⟨by rfl, by intro w' hS; go_simp⟩) hHeld ?_
        simp only [Act.put, List.setIfInBounds_toArray, List.set_cons_zero, List.set_cons_succ]
        refine wpAnyH_take (i := 3) (v := .pointer (some ⟨G i, 0, none⟩)) rfl (by kernel_rfl) (by kernel_rfl) (by kernel_rfl) (fun _ _ _ h => h) (Or.inl ⟨by rfl, by intro w' hS; go_simp⟩) hHeld ?_
        simp only [Act.put, List.setIfInBounds_toArray, List.set_cons_zero, List.set_cons_succ]
        refine wpAnyH_take (i := 4) (v := .pointer (some ⟨G i, 0, none⟩)) rfl (by kernel_rfl) (by kernel_rfl) (by kernel_rfl) (fun _ _ _ h => h) (Or.inl ⟨by rfl, by intro w' hS; go_simp⟩) hHeld ?_
        simp only [Act.put, List.setIfInBounds_toArray, List.set_cons_zero, List.set_cons_succ]
        refine wpAnyH_take (i := 5) (v := .pointer (some ⟨G i, 0, none⟩)) rfl (by kernel_rfl) (by kernel_rfl) (by kernel_rfl) (fun _ _ _ h => h) (Or.inl ⟨by rfl, by intro w' hS; go_simp⟩) hHeld ?_
        simp only [Act.put, List.setIfInBounds_toArray, List.set_cons_zero, List.set_cons_succ]
        refine wpAnyH_take (i := 6) (v := .int .i64 i) rfl (by kernel_rfl) (by kernel_rfl) (by kernel_rfl) (fun _ _ _ h => h) (Or.inl ⟨by rfl, by intro w' hS; have hc := D1 w' hS; go_simp⟩) hHeld ?_
        simp only [Act.put, List.setIfInBounds_toArray, List.set_cons_zero, List.set_cons_succ]
        refine wpAnyH_ready (rs := [1, 7]) (by kernel_rfl) (by simp) (AllReadyH.cons rfl (fun K hK => ?_) (AllReadyH.cons rfl (fun K hK => ?_) AllReadyH.nil))
        ·have e1 := (kx8.later Ld).cell 1
         go_simp
         clear e1
         refine hK.out _ _ hHeld (fun hHeld' => ?_)
         clear hK K hHeld'
         try simp only [Act.put, List.setIfInBounds_toArray, List.set_cons_zero, List.set_cons_succ]
         refine wpAnyH_ready (rs := [7]) (by kernel_rfl) (by simp) (AllReadyH.cons rfl (fun K hK => ?_) AllReadyH.nil)
         go_simp
         have hb3 := Blk.new Wd 3 #[.int .i64 (i : Int)]
         have L3 : Lat wr (Wd.alloc (.cells #[.int .i64 (i : Int)] 3)) := Ld.trans (Lat.alloc _ _)
         obtain ⟨W4, hW4⟩ : ∃ W4, Wd.alloc (.cells #[.int .i64 (i : Int)] 3) = W4 := ⟨_, rfl⟩
         rw [hW4] at hb3 L3 ⊢
         clear hW4
         refine hK.out _ _ (L3.p _) (fun hHeld => ?_)
         clear hK K
         try simp only [Act.put, List.setIfInBounds_toArray, List.set_cons_zero, List.set_cons_succ]
         refine wpAnyH_ready (rs := [8]) (by kernel_rfl) (by simp) (AllReadyH.cons rfl (fun K hK => ?_) AllReadyH.nil)
         refine step_pushV rfl _ _ 29 (by rfl) W2.heap.size 3 3 (.int .i64 0) 8 Tryz.underlying29 infoInt rfl (by decide) tv' (nats (Aw.tied.take j)) [.int .i64 (i : Int)] (by simp [Value.oneCell']) W4 Wd.heap.size (by rfl) (hox.later L3) hb3 1 rfl (by decide) (by rfl) (by rw [nats_length, List.length_take]; omega) (by have := L3.size; omega) ?_
         intro tv2 W5 hown5 hgr5 _
         have S5 : LatP (fun q => q = w.heap.size + 1 ∨ W2.heap.size ≤ q) wr W5 := (L3.p _).trans ⟨hgr5.os, hgr5.tape, hgr5.output, hgr5.size, fun q hq hn => hgr5.block q hq (fun h => hn (.inr (hox.at q h.symm).1))⟩
         have kb85 : Blk W5 (w.heap.size + 1) 47 #[.slice (some ⟨sr, 0, none⟩) k cS, tv', .int .i64 0] := (hgr5.block _ (kx8.later L3).lt (fun h => by obtain ⟨_, _, cs', h3⟩ := (hox.later L3).at _ h.symm; exact blk_ne (kx8.later L3) h3 (by decide) rfl)).trans (kx8.later L3)
         obtain ⟨A', nv', c', rfl⟩ := hown5.slice
         refine hK.out _ _ S5 (fun hHeld => ?_)
         clear hK K
         try simp only [Act.put, List.setIfInBounds_toArray, List.set_cons_zero, List.set_cons_succ]
         refine wpAnyH_take (i := 9) (v := .pointer (some ⟨w.heap.size + 1, 1, none⟩)) rfl (by kernel_rfl) (by kernel_rfl) (by kernel_rfl) (fun _ _ _ h => h) (Or.inl ⟨by rfl, by intro w' hS; go_simp⟩) hHeld ?_
         simp only [Act.put, List.setIfInBounds_toArray, List.set_cons_zero, List.set_cons_succ]
         refine wpAnyH_ready (rs := [10]) (by kernel_rfl) (by simp) (AllReadyH.cons rfl (fun K hK => ?_) AllReadyH.nil)
         have e1 := kb85.cell 1
         have e2 := kb85.frozen 1
         go_simp
         refine hK.out _ _ ?_ (fun hHeld' => ?_)
         ·exact S5.trans ⟨rfl, rfl, rfl, by simp [World.setCell], fun q _ hq => Below.heap_setCell W5 ⟨w.heap.size + 1, 1, none⟩ _ q (fun h => hq (.inl h))⟩
         clear hK K hHeld' e1 e2
         refine wpAnyH_done (by kernel_rfl) ?_ _
         refine name_set (Q := fun W => Exit.inBlock _ _ Exit.normal _ W) kb85 ?_
         intro W6 kb86 hk6 hs6 hl6
         have own6 := hown5.kept (fun q hq => hk6 q (fun h => by subst h; obtain ⟨_, _, cs', h3⟩ := hown5.at _ hq; exact blk_ne kb85 h3 (by decide) rfl))
         have hl26 : LatP (· = w.heap.size + 1) W2 W6 := ((hlx.wider (fun q h => .inl h)).trans (S5.trans (hl6.wider (fun q h => .inl h)))).narrow rfl
         have HT6 := Lib.hid (show nats (Aw.tied.take (j + 1)) = nats (Aw.tied.take j) ++ [.int .i64 (i : Int)] by rw [HTK.out, nats_snoc])
         clear hl6 hk6 kb85 S5 hgr5 hown5 hb3 L3 hHeld kx8 hox hlx D1 Ld
         go_wp2
         go_roundw
         case rel => exact ⟨j + 1, _, by omega, by go_num, kb86, by rw [HT6.out]; exact own6, hl26⟩
         case measure => simp [intOf]; omega
        ·go_simp
         have hb3 := Blk.new Wd 3 #[.int .i64 (i : Int)]
         have L3 : Lat wr (Wd.alloc (.cells #[.int .i64 (i : Int)] 3)) := Ld.trans (Lat.alloc _ _)
         obtain ⟨W4, hW4⟩ : ∃ W4, Wd.alloc (.cells #[.int .i64 (i : Int)] 3) = W4 := ⟨_, rfl⟩
         rw [hW4] at hb3 L3 ⊢
         clear hW4
         refine hK.out _ _ (L3.p _) (fun hHeld => ?_)
         clear hK K
         try simp only [Act.put, List.setIfInBounds_toArray, List.set_cons_zero, List.set_cons_succ]
         refine wpAnyH_ready (rs := [1]) (by kernel_rfl) (by simp) (AllReadyH.cons rfl (fun K hK => ?_) AllReadyH.nil)
         have e1 := (kx8.later L3).cell 1
         go_simp
         clear e1
         refine hK.out _ _ hHeld (fun hHeld' => ?_)
         clear hK K hHeld'
         try simp only [Act.put, List.setIfInBounds_toArray, List.set_cons_zero, List.set_cons_succ]
         refine wpAnyH_ready (rs := [8]) (by kernel_rfl) (by simp) (AllReadyH.cons rfl (fun K hK => ?_) AllReadyH.nil)
         refine step_pushV rfl _ _ 29 (by rfl) W2.heap.size 3 3 (.int .i64 0) 8 Tryz.underlying29 infoInt rfl (by decide) tv' (nats (Aw.tied.take j)) [.int .i64 (i : Int)] (by simp [Value.oneCell']) W4 Wd.heap.size (by rfl) (hox.later L3) hb3 1 rfl (by decide) (by rfl) (by rw [nats_length, List.length_take]; omega) (by have := L3.size; omega) ?_
         intro tv2 W5 hown5 hgr5 _
         have S5 : LatP (fun q => q = w.heap.size + 1 ∨ W2.heap.size ≤ q) wr W5 := (L3.p _).trans ⟨hgr5.os, hgr5.tape, hgr5.output, hgr5.size, fun q hq hn => hgr5.block q hq (fun h => hn (.inr (hox.at q h.symm).1))⟩
         have kb85 : Blk W5 (w.heap.size + 1) 47 #[.slice (some ⟨sr, 0, none⟩) k cS, tv', .int .i64 0] := (hgr5.block _ (kx8.later L3).lt (fun h => by obtain ⟨_, _, cs', h3⟩ := (hox.later L3).at _ h.symm; exact blk_ne (kx8.later L3) h3 (by decide) rfl)).trans (kx8.later L3)
         obtain ⟨A', nv', c', rfl⟩ := hown5.slice
         refine hK.out _ _ S5 (fun hHeld => ?_)
         clear hK K
         try simp only [Act.put, List.setIfInBounds_toArray, List.set_cons_zero, List.set_cons_succ]
         refine wpAnyH_take (i := 9) (v := .pointer (some ⟨w.heap.size + 1, 1, none⟩)) rfl (by kernel_rfl) (by kernel_rfl) (by kernel_rfl) (fun _ _ _ h => h) (Or.inl ⟨by rfl, by intro w' hS; go_simp⟩) hHeld ?_
         simp only [Act.put, List.setIfInBounds_toArray, List.set_cons_zero, List.set_cons_succ]
         refine wpAnyH_ready (rs := [10]) (by kernel_rfl) (by simp) (AllReadyH.cons rfl (fun K hK => ?_) AllReadyH.nil)
         have e1 := kb85.cell 1
         have e2 := kb85.frozen 1
         go_simp
         refine hK.out _ _ ?_ (fun hHeld' => ?_)
         ·exact S5.trans ⟨rfl, rfl, rfl, by simp [World.setCell], fun q _ hq => Below.heap_setCell W5 ⟨w.heap.size + 1, 1, none⟩ _ q (fun h => hq (.inl h))⟩
         clear hK K hHeld' e1 e2
         refine wpAnyH_done (by kernel_rfl) ?_ _
         refine name_set (Q := fun W => Exit.inBlock _ _ Exit.normal _ W) kb85 ?_
         intro W6 kb86 hk6 hs6 hl6
         have own6 := hown5.kept (fun q hq => hk6 q (fun h => by subst h; obtain ⟨_, _, cs', h3⟩ := hown5.at _ hq; exact blk_ne kb85 h3 (by decide) rfl))
         have hl26 : LatP (· = w.heap.size + 1) W2 W6 := ((hlx.wider (fun q h => .inl h)).trans (S5.trans (hl6.wider (fun q h => .inl h)))).narrow rfl
         have HT6 := Lib.hid (show nats (Aw.tied.take (j + 1)) = nats (Aw.tied.take j) ++ [.int .i64 (i : Int)] by rw [HTK.out, nats_snoc])
         clear hl6 hk6 kb85 S5 hgr5 hown5 hb3 L3 hHeld kx8 hox hlx D1 Ld
         go_wp2
         go_roundw
         case rel => exact ⟨j + 1, _, by omega, by go_num, kb86, by rw [HT6.out]; exact own6, hl26⟩
         case measure => simp [intOf]; omega
       ·obtain rfl : j = Aw.tied.length := by omega
        have HTB : Hid (Aw.tied.take Aw.tied.length = Aw.tied) := List.take_length
        rw [HTB.out] at hox
        have kx9 : Blk wr (w.heap.size + 1 + 1) 29 #[ov] := kb9.keepP hlx (by omega)
        have kxt : Blk wr wo.heap.size 117 #[.slice At Aw.tied.length ct] := ktd.keepP hlx (blk_ne ktd kb8 (by decide))
        have kxr : Blk wr rcb 119 #[.int .i64 m, .slice Aall nv cv, .int .i64 lv] := krc.keepP hlx (blk_ne krc kb8 (by decide))
        have hrx : RowN wr sr k Aw.seats := by
         obtain ⟨cur, q, q2⟩ := hrw
         exact ⟨cur, q.keepP hlx (blk_ne q kb8 (by decide)), q2⟩
        have hoo : OwnV wr wu.heap.size 3 ov (nats Aw.order) := hown.kept' hlx (fun q hq h => by have := (hown.at q hq).1; omega)
        have hKD : wr.heap[D]? = some (.deferred (some [])) := (hlx.block D (Array.getElem?_eq_some_iff.1 hK).1 (by omega)).trans hK
        have LWx : Lat w wr := hlx.lat LW2 (fun q h => by omega)
        obtain ⟨At2, n2, ct2, rfl⟩ := hox.slice
        obtain rfl : n2 = Aw.tied.length := by have := hox.len; rwa [nats_length] at this
        obtain ⟨A3o, n3, c3o, rfl⟩ := hoo.slice
        obtain rfl : n3 = Aw.order.length := by have := hoo.len; rwa [nats_length] at this
        have hcap3 := hoo.cap
        have hooD : ∀ q, (Value.slice A3o Aw.order.length c3o).ownBlock = some q → q ≠ D := by
         intro q hq h
         obtain ⟨_, _, cs', h3⟩ := hoo.at q hq
         subst h
         unfold Blk at h3
         rw [hKD] at h3
         cases h3
        have hsrD : sr ≠ D := by omega
        have hDw : D < W2.heap.size := (Array.getElem?_eq_some_iff.1 hK).1
        have c15 := kxt.cell 0
        clear hcl hrowT hT8 ktd krc hrw hown hK kb8 kb9 hlx LW2
        by_cases h0 : Aw.tied = []
        ·have hl0 : Aw.tied.length = 0 := by rw [h0]; rfl
         have hA0 := HAT.out.2.1 h0
         have hb0 : decide ((0 : Int) < ((Aw.tied.length : Nat) : Int)) = false := by rw [hl0]; rfl
         have kx8 : Blk wr (w.heap.size + 1) 47 #[.slice (some ⟨sr, 0, none⟩) k cS, .slice At2 Aw.tied.length ct2, .int .i64 Aw.left] := by rw [hA0]; exact kx8
         have HL0 := Lib.hid hl0
         have hnl0 : ¬ 0 < Aw.tied.length := by omega
         clear hl0 hA0 h0
         go_upto_region 34 with (fail)
         obtain ⟨Wx, hWx⟩ : ∃ Wx, wr = Wx := ⟨_, rfl⟩
         subst hWx
         have hKDx := hKD
         have LX2 := LWx
         have hrx2 := hrx
         have hox2 := hox
         have hoo2 := hoo
         clear hb0 hnl0 c15
         have Ld : Lat wr wr.drew := Lat.drew wr
         refine wp_region_held_drew (S := fun w' => LatP (fun q => q = w.heap.size + 1 ∨ q = w.heap.size + 1 + 1) wr w' ∧ Blk w' (w.heap.size + 1) 47 #[.slice (some ⟨sr, 0, none⟩) k cS, .slice At2 Aw.tied.length ct2, .int .i64 Aw.left] ∧ Blk w' (w.heap.size + 1 + 1) 29 #[.slice A3o Aw.order.length c3o]) (by kernel_rfl) ⟨Ld.p _, kx8.later Ld, kx9.later Ld⟩ (fun hHeld => ?_)
         obtain ⟨Wd, hWd⟩ : ∃ Wd, wr.drew = Wd := ⟨_, rfl⟩
         rw [hWd] at hHeld Ld ⊢
         clear hWd Ld
         have D1 : ∀ w', (LatP (fun q => q = w.heap.size + 1 ∨ q = w.heap.size + 1 + 1) wr w' ∧ Blk w' (w.heap.size + 1) 47 #[.slice (some ⟨sr, 0, none⟩) k cS, .slice At2 Aw.tied.length ct2, .int .i64 Aw.left] ∧ Blk w' (w.heap.size + 1 + 1) 29 #[.slice A3o Aw.order.length c3o]) → w'.rangeAt (w.heap.size + 1) 0 [.slice (some ⟨sr, 0, none⟩) k cS, .slice At2 Aw.tied.length ct2, .int .i64 Aw.left] := fun w' h j v hj => by rw [Nat.zero_add, h.2.1.cell j]; simpa using hj
         have D2 : ∀ w', (LatP (fun q => q = w.heap.size + 1 ∨ q = w.heap.size + 1 + 1) wr w' ∧ Blk w' (w.heap.size + 1) 47 #[.slice (some ⟨sr, 0, none⟩) k cS, .slice At2 Aw.tied.length ct2, .int .i64 Aw.left] ∧ Blk w' (w.heap.size + 1 + 1) 29 #[.slice A3o Aw.order.length c3o]) → w'.cell? ⟨w.heap.size + 1 + 1, 0, none⟩ = some (.slice A3o Aw.order.length c3o) := fun w' h => h.2.2.cell 0
         refine' wpAnyH_take (i := 0) rfl (by kernel_rfl) (by kernel_rfl) (by kernel_rfl) (fun _ _ _ h => h) (yieldsIf_load_mid (by rfl) 47 (.tmp 8) rfl (w.heap.size + 1) 0 rfl _ _ D1 Tryz.underlying47 rfl (by kernel_rfl)) hHeld ?_
         simp only [Act.put, List.setIfInBounds_toArray, List.set_cons_zero, List.set_cons_succ]
         refine wpAnyH_take (i := 1) (v := .slice A3o Aw.order.length c3o) rfl (by kernel_rfl) (by kernel_rfl) (by kernel_rfl) (fun _ _ _ h => h) (Or.inl ⟨by rfl, by intro w' hS; have hc := D2 w' hS; go_simp⟩) hHeld ?_
         simp only [Act.put, List.setIfInBounds_toArray, List.set_cons_zero, List.set_cons_succ]
         refine wpAnyH_ready (rs := [2]) (by kernel_rfl) (by simp) (AllReadyH.cons rfl (fun K hK => ?_) AllReadyH.nil)
         obtain ⟨g1, g2, g3⟩ := hHeld
         rw [if_pos (by rfl)]
         refine wp_store_mid 47 (.tmp 8) (.tmp 151) rfl (w.heap.size + 1) 0 #[.slice (some ⟨sr, 0, none⟩) k cS, .slice At2 Aw.tied.length ct2, .int .i64 Aw.left] rfl rfl (fun j hj => by rw [Nat.zero_add]; exact ⟨by rw [g2.cell j]; rw [Array.getElem?_eq_getElem hj]; rfl, g2.frozen j⟩) (by kernel_rfl) (by simp [Value.oneCell']) ?_
         have hS2 : (LatP (fun q => q = w.heap.size + 1 ∨ q = w.heap.size + 1 + 1) wr (Wd.setCells (w.heap.size + 1) 0 [.slice (some ⟨sr, 0, none⟩) k cS, .slice At2 Aw.tied.length ct2, .int .i64 Aw.left]) ∧ Blk (Wd.setCells (w.heap.size + 1) 0 [.slice (some ⟨sr, 0, none⟩) k cS, .slice At2 Aw.tied.length ct2, .int .i64 Aw.left]) (w.heap.size + 1) 47 #[.slice (some ⟨sr, 0, none⟩) k cS, .slice At2 Aw.tied.length ct2, .int .i64 Aw.left] ∧ Blk (Wd.setCells (w.heap.size + 1) 0 [.slice (some ⟨sr, 0, none⟩) k cS, .slice At2 Aw.tied.length ct2, .int .i64 Aw.left]) (w.heap.size + 1 + 1) 29 #[.slice A3o Aw.order.length c3o]) := ⟨g1.trans ((LatP.setCells _ _ _).wider (fun q h => .inl h)), g2.setCells _ rfl, (heap_setCells (by omega) _ _ _).trans g3⟩
         refine hK.out _ _ hS2 (fun hHeld => ?_)
         clear hK K hHeld D1 D2 g1 g2 g3
         obtain ⟨We, hWe⟩ : ∃ We, Wd.setCells (w.heap.size + 1) 0 [.slice (some ⟨sr, 0, none⟩) k cS, .slice At2 Aw.tied.length ct2, .int .i64 Aw.left] = We := ⟨_, rfl⟩
         rw [hWe] at hS2 ⊢
         clear hWe
         obtain ⟨g1, g2, g3⟩ := hS2
         refine wpAnyH_ready (rs := [3]) (by kernel_rfl) (by simp) (AllReadyH.cons rfl (fun K hK => ?_) AllReadyH.nil)
         have e1 := g3.cell 0
         have e2 := g3.frozen 0
         go_simp
         have hS3 : (LatP (fun q => q = w.heap.size + 1 ∨ q = w.heap.size + 1 + 1) wr (We.setCell ⟨w.heap.size + 1 + 1, 0, none⟩ (.slice A3o Aw.order.length c3o)) ∧ Blk (We.setCell ⟨w.heap.size + 1 + 1, 0, none⟩ (.slice A3o Aw.order.length c3o)) (w.heap.size + 1) 47 #[.slice (some ⟨sr, 0, none⟩) k cS, .slice At2 Aw.tied.length ct2, .int .i64 Aw.left] ∧ Blk (We.setCell ⟨w.heap.size + 1 + 1, 0, none⟩ (.slice A3o Aw.order.length c3o)) (w.heap.size + 1 + 1) 29 #[.slice A3o Aw.order.length c3o]) := ⟨g1.trans ⟨rfl, rfl, rfl, by simp [World.setCell], fun q _ hq => Below.heap_setCell We ⟨w.heap.size + 1 + 1, 0, none⟩ _ q (fun h => hq (.inr h))⟩, g2.far (by simp) _, by have := g3.set 0 (.slice A3o Aw.order.length c3o); simpa using this⟩
         refine hK.out _ _ hS3 (fun hHeld => ?_)
         clear hK K hHeld e1 e2 g1 g2 g3
         obtain ⟨Wf, hWf⟩ : ∃ Wf, We.setCell ⟨w.heap.size + 1 + 1, 0, none⟩ (.slice A3o Aw.order.length c3o) = Wf := ⟨_, rfl⟩
         rw [hWf] at hS3 ⊢
         clear hWf
         try simp only [Act.put, List.setIfInBounds_toArray, List.set_cons_zero, List.set_cons_succ]
         refine wpAnyH_ready (rs := [4]) (by kernel_rfl) (by simp) (AllReadyH.cons rfl (fun K hK => ?_) AllReadyH.nil)
         go_simp
         refine hK.out _ _ hS3 (fun hHeld => ?_)
         clear hK K hHeld
         refine wpAnyH_done (by kernel_rfl) ?_ _
         obtain ⟨g1, g2, g3⟩ := hS3
         go_wp2
         rw [Exit.noGoto_ret]
         have hp := LatP.putObj (w := Wf) (o := .deferred none) (Nat.lt_of_lt_of_le (Array.getElem?_eq_some_iff.1 hKDx).1 g1.size)
         have G2 := g2.keepP hp (by omega)
         have G3 := g3.keepP hp (by omega)
         have c2_0 := G2.cell 0
         have c2_1 := G2.cell 1
         have c2_2 := G2.cell 2
         have d0 := G3.cell 0
         refine leave_mark (v := .tuple #[.agg #[.slice (some ⟨sr, 0, none⟩) k cS, .slice At2 Aw.tied.length ct2, .int .i64 Aw.left], .slice A3o Aw.order.length c3o, .int .i64 0]) ((g1.block D (Array.getElem?_eq_some_iff.1 hKDx).1 (by omega)).trans hKDx) (by simp [results, Tryz.results42, go_sem, c2_0, c2_1, c2_2, d0]) ?_
         rw [HLz.out]
         refine ⟨fun h => absurd h (by rw [HST.out]; omega), fun _ => ?_⟩
         rw [HST.out, HAw.out]
         have hf : LatP (fun q => q = w.heap.size + 1 ∨ q = w.heap.size + 1 + 1 ∨ q = D) wr (Wf.putObj D (.deferred none)) := (g1.wider (fun q h => by rcases h with h | h; exact .inl h; exact .inr (.inl h))).trans (hp.wider (fun q h => .inr (.inr h)))
         refine ⟨some ⟨sr, 0, none⟩, cS, At2, ct2, A3o, c3o, rfl, ?_, ?_, ?_, hf.lat LX2 (fun q h => by omega), fun a e => (by cases e; show w.heap.size ≤ sr; omega), fun a e => (by subst e; have := (hox2.at a.block rfl).1; omega), fun a e => (by subst e; have := (hoo2.at a.block rfl).1; omega), hcap3⟩
         ·exact (hrx2.keepP hf (by have := hsrD; omega)).sl
         ·have ho := hox2.kept' hf (fun q hq h => by have := (hox2.at q hq).1; omega)
          obtain ⟨A', c', e', hr', _⟩ := ho.form
          simp only [Value.slice.injEq] at e'
          obtain ⟨rfl, _, rfl⟩ := e'
          rw [nats_length] at hr'
          exact hr'.sl
         ·have ho := hoo2.kept' hf (fun q hq h => by have := hooD q hq; have := (hoo2.at q hq).1; omega)
          obtain ⟨A', c', e', hr', _⟩ := ho.form
          simp only [Value.slice.injEq] at e'
          obtain ⟨rfl, _, rfl⟩ := e'
          rw [nats_length] at hr'
          exact hr'.sl
        ·have hlp : 0 < Aw.tied.length := List.length_pos_iff.2 h0
         have hlve := HLV.out h0
         have hb0 : decide ((0 : Int) < ((Aw.tied.length : Nat) : Int)) = true := by simp; omega
         have c33 := kxr.cell 2
         have c8 := kx8.cell 2
         have f8 := kx8.frozen 2
         have HLVE := Lib.hid hlve
         clear hlve h0
         go_upto_region 34 with (fail)
         refine name_set (Q := fun W => Code.wp _ _ _ _ W) kx8 ?_
         intro Wx kx8' hkx hsx2 hlx2
         have kx8 : Blk Wx (w.heap.size + 1) 47 #[.slice (some ⟨sr, 0, none⟩) k cS, .slice At2 Aw.tied.length ct2, .int .i64 Aw.left] := by rw [← HLVE.out]; exact kx8'
         have kx9 := kx9.keepP hlx2 (by omega)
         have hKDx := (hlx2.block D (Array.getElem?_eq_some_iff.1 hKD).1 (by omega)).trans hKD
         have LX2 := hlx2.lat LWx (fun q h => by omega)
         have hrx2 := hrx.keepP hlx2 (by omega)
         have hox2 := hox.kept' hlx2 (fun q hq h => by have := (hox.at q hq).1; omega)
         have hoo2 := hoo.kept' hlx2 (fun q hq h => by have := (hoo.at q hq).1; omega)
         clear hb0 c33 c8 f8 kx8' hkx hlx2 c15
         have Ld : Lat Wx Wx.drew := Lat.drew Wx
         refine wp_region_held_drew (S := fun w' => LatP (fun q => q = w.heap.size + 1 ∨ q = w.heap.size + 1 + 1) Wx w' ∧ Blk w' (w.heap.size + 1) 47 #[.slice (some ⟨sr, 0, none⟩) k cS, .slice At2 Aw.tied.length ct2, .int .i64 Aw.left] ∧ Blk w' (w.heap.size + 1 + 1) 29 #[.slice A3o Aw.order.length c3o]) (by kernel_rfl) ⟨Ld.p _, kx8.later Ld, kx9.later Ld⟩ (fun hHeld => ?_)
         obtain ⟨Wd, hWd⟩ : ∃ Wd, Wx.drew = Wd := ⟨_, rfl⟩
         rw [hWd] at hHeld Ld ⊢
         clear hWd Ld
         have D1 : ∀ w', (LatP (fun q => q = w.heap.size + 1 ∨ q = w.heap.size + 1 + 1) Wx w' ∧ Blk w' (w.heap.size + 1) 47 #[.slice (some ⟨sr, 0, none⟩) k cS, .slice At2 Aw.tied.length ct2, .int .i64 Aw.left] ∧ Blk w' (w.heap.size + 1 + 1) 29 #[.slice A3o Aw.order.length c3o]) → w'.rangeAt (w.heap.size + 1) 0 [.slice (some ⟨sr, 0, none⟩) k cS, .slice At2 Aw.tied.length ct2, .int .i64 Aw.left] := fun w' h j v hj => by rw [Nat.zero_add, h.2.1.cell j]; simpa using hj
         have D2 : ∀ w', (LatP (fun q => q = w.heap.size + 1 ∨ q = w.heap.size + 1 + 1) Wx w' ∧ Blk w' (w.heap.size + 1) 47 #[.slice (some ⟨sr, 0, none⟩) k cS, .slice At2 Aw.tied.length ct2, .int .i64 Aw.left] ∧ Blk w' (w.heap.size + 1 + 1) 29 #[.slice A3o Aw.order.length c3o]) → w'.cell? ⟨w.heap.size + 1 + 1, 0, none⟩ = some (.slice A3o Aw.order.length c3o) := fun w' h => h.2.2.cell 0
         refine' wpAnyH_take (i := 0) rfl (by kernel_rfl) (by kernel_rfl) (by kernel_rfl) (fun _ _ _ h => h) (yieldsIf_load_mid (by rfl) 47 (.tmp 8) rfl (w.heap.size + 1) 0 rfl _ _ D1 Tryz.underlying47 rfl (by kernel_rfl)) hHeld ?_
         simp only [Act.put, List.setIfInBounds_toArray, List.set_cons_zero, List.set_cons_succ]
         refine wpAnyH_take (i := 1) (v := .slice A3o Aw.order.length c3o) rfl (by kernel_rfl) (by kernel_rfl) (by kernel_rfl) (fun _ _ _ h => h) (Or.inl ⟨by rfl, by intro w' hS; have hc := D2 w' hS; go_simp⟩) hHeld ?_
         simp only [Act.put, List.setIfInBounds_toArray, List.set_cons_zero, List.set_cons_succ]
         refine wpAnyH_ready (rs := [2]) (by kernel_rfl) (by simp) (AllReadyH.cons rfl (fun K hK => ?_) AllReadyH.nil)
         obtain ⟨g1, g2, g3⟩ := hHeld
         rw [if_pos (by rfl)]
         refine wp_store_mid 47 (.tmp 8) (.tmp 151) rfl (w.heap.size + 1) 0 #[.slice (some ⟨sr, 0, none⟩) k cS, .slice At2 Aw.tied.length ct2, .int .i64 Aw.left] rfl rfl (fun j hj => by rw [Nat.zero_add]; exact ⟨by rw [g2.cell j]; rw [Array.getElem?_eq_getElem hj]; rfl, g2.frozen j⟩) (by kernel_rfl) (by simp [Value.oneCell']) ?_
         have hS2 : (LatP (fun q => q = w.heap.size + 1 ∨ q = w.heap.size + 1 + 1) Wx (Wd.setCells (w.heap.size + 1) 0 [.slice (some ⟨sr, 0, none⟩) k cS, .slice At2 Aw.tied.length ct2, .int .i64 Aw.left]) ∧ Blk (Wd.setCells (w.heap.size + 1) 0 [.slice (some ⟨sr, 0, none⟩) k cS, .slice At2 Aw.tied.length ct2, .int .i64 Aw.left]) (w.heap.size + 1) 47 #[.slice (some ⟨sr, 0, none⟩) k cS, .slice At2 Aw.tied.length ct2, .int .i64 Aw.left] ∧ Blk (Wd.setCells (w.heap.size + 1) 0 [.slice (some ⟨sr, 0, none⟩) k cS, .slice At2 Aw.tied.length ct2, .int .i64 Aw.left]) (w.heap.size + 1 + 1) 29 #[.slice A3o Aw.order.length c3o]) := ⟨g1.trans ((LatP.setCells _ _ _).wider (fun q h => .inl h)), g2.setCells _ rfl, (heap_setCells (by omega) _ _ _).trans g3⟩
         refine hK.out _ _ hS2 (fun hHeld => ?_)
         clear hK K hHeld D1 D2 g1 g2 g3
         obtain ⟨We, hWe⟩ : ∃ We, Wd.setCells (w.heap.size + 1) 0 [.slice (some ⟨sr, 0, none⟩) k cS, .slice At2 Aw.tied.length ct2, .int .i64 Aw.left] = We := ⟨_, rfl⟩
         rw [hWe] at hS2 ⊢
         clear hWe
         obtain ⟨g1, g2, g3⟩ := hS2
         refine wpAnyH_ready (rs := [3]) (by kernel_rfl) (by simp) (AllReadyH.cons rfl (fun K hK => ?_) AllReadyH.nil)
         have e1 := g3.cell 0
         have e2 := g3.frozen 0
         go_simp
         have hS3 : (LatP (fun q => q = w.heap.size + 1 ∨ q = w.heap.size + 1 + 1) Wx (We.setCell ⟨w.heap.size + 1 + 1, 0, none⟩ (.slice A3o Aw.order.length c3o)) ∧ Blk (We.setCell ⟨w.heap.size + 1 + 1, 0, none⟩ (.slice A3o Aw.order.length c3o)) (w.heap.size + 1) 47 #[.slice (some ⟨sr, 0, none⟩) k cS, .slice At2 Aw.tied.length ct2, .int .i64 Aw.left] ∧ Blk (We.setCell ⟨w.heap.size + 1 + 1, 0, none⟩ (.slice A3o Aw.order.length c3o)) (w.heap.size + 1 + 1) 29 #[.slice A3o Aw.order.length c3o]) := ⟨g1.trans ⟨rfl, rfl, rfl, by simp [World.setCell], fun q _ hq => Below.heap_setCell We ⟨w.heap.size + 1 + 1, 0, none⟩ _ q (fun h => hq (.inr h))⟩, g2.far (by simp) _, by have := g3.set 0 (.slice A3o Aw.order.length c3o); simpa using this⟩
         refine hK.out _ _ hS3 (fun hHeld => ?_)
         clear hK K hHeld e1 e2 g1 g2 g3
         obtain ⟨Wf, hWf⟩ : ∃ Wf, We.setCell ⟨w.heap.size + 1 + 1, 0, none⟩ (.slice A3o Aw.order.length c3o) = Wf := ⟨_, rfl⟩
         rw [hWf] at hS3 ⊢
         clear hWf
         try simp only [Act.put, List.setIfInBounds_toArray, List.set_cons_zero, List.set_cons_succ]
         refine wpAnyH_ready (rs := [4]) (by kernel_rfl) (by simp) (AllReadyH.cons rfl (fun K hK => ?_) AllReadyH.nil)
         go_simp
         refine hK.out _ _ hS3 (fun hHeld => ?_)
         clear hK K hHeld
         refine wpAnyH_done (by kernel_rfl) ?_ _
         obtain ⟨g1, g2, g3⟩ := hS3
         go_wp2
         rw [Exit.noGoto_ret]
         have hp := LatP.putObj (w := Wf) (o := .deferred none) (Nat.lt_of_lt_of_le (Array.getElem?_eq_some_iff.1 hKDx).1 g1.size)
         have G2 := g2.keepP hp (by omega)
         have G3 := g3.keepP hp (by omega)
         have c2_0 := G2.cell 0
         have c2_1 := G2.cell 1
         have c2_2 := G2.cell 2
         have d0 := G3.cell 0
         refine leave_mark (v := .tuple #[.agg #[.slice (some ⟨sr, 0, none⟩) k cS, .slice At2 Aw.tied.length ct2, .int .i64 Aw.left], .slice A3o Aw.order.length c3o, .int .i64 0]) ((g1.block D (Array.getElem?_eq_some_iff.1 hKDx).1 (by omega)).trans hKDx) (by simp [results, Tryz.results42, go_sem, c2_0, c2_1, c2_2, d0]) ?_
         rw [HLz.out]
         refine ⟨fun h => absurd h (by rw [HST.out]; omega), fun _ => ?_⟩
         rw [HST.out, HAw.out]
         have hf : LatP (fun q => q = w.heap.size + 1 ∨ q = w.heap.size + 1 + 1 ∨ q = D) Wx (Wf.putObj D (.deferred none)) := (g1.wider (fun q h => by rcases h with h | h; exact .inl h; exact .inr (.inl h))).trans (hp.wider (fun q h => .inr (.inr h)))
         refine ⟨some ⟨sr, 0, none⟩, cS, At2, ct2, A3o, c3o, rfl, ?_, ?_, ?_, hf.lat LX2 (fun q h => by omega), fun a e => (by cases e; show w.heap.size ≤ sr; omega), fun a e => (by subst e; have := (hox2.at a.block rfl).1; omega), fun a e => (by subst e; have := (hoo2.at a.block rfl).1; omega), hcap3⟩
         ·exact (hrx2.keepP hf (by have := hsrD; omega)).sl
         ·have ho := hox2.kept' hf (fun q hq h => by have := (hox2.at q hq).1; omega)
          obtain ⟨A', c', e', hr', _⟩ := ho.form
          simp only [Value.slice.injEq] at e'
          obtain ⟨rfl, _, rfl⟩ := e'
          rw [nats_length] at hr'
          exact hr'.sl
         ·have ho := hoo2.kept' hf (fun q hq h => by have := hooD q hq; have := (hoo2.at q hq).1; omega)
          obtain ⟨A', c', e', hr', _⟩ := ho.form
          simp only [Value.slice.injEq] at e'
          obtain ⟨rfl, _, rfl⟩ := e'
          rw [nats_length] at hr'
          exact hr'.sl
end Go.Proofs.YteocdndanehpnaaGreat
