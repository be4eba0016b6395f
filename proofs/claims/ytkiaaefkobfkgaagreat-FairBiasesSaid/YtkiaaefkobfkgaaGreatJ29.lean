/- Several texts in one: Mem, Seats. -/
import Derived.Test.YtkiaaefkobfkgaaGreatJ28
import Derived.RangeFuncGives
import Derived.LoopNIn
import Derived.LoopIn
import Derived.TacticsInMore
import Derived.Shelf.Abstract

/- Divisor: the memory of a race, and what its steps keep. -/
namespace Go.Proofs.YtkiaaefkobfkgaaGreat
open Go.RowKit

/-- w is W, but for new blocks and the blocks of M. -/
structure LatP (M : Nat → Prop) (W w : World) : Prop where
  os : w.os = W.os
  tape : w.tape = W.tape
  output : w.output = W.output
  size : W.heap.size ≤ w.heap.size
  block : ∀ k, k < W.heap.size → ¬ M k → w.heap[k]? = W.heap[k]?
section
variable {M N : Nat → Prop} {W w X : World}
theorem LatP.refl (M : Nat → Prop) (W : World) : LatP M W W := ⟨rfl, rfl, rfl, Nat.le_refl _, fun _ _ _ => rfl⟩
theorem LatP.trans (h : LatP M W w) (k : LatP M w X) : LatP M W X :=
  ⟨k.os.trans h.os, k.tape.trans h.tape, k.output.trans h.output, Nat.le_trans h.size k.size, fun i hi hm => (k.block i (Nat.lt_of_lt_of_le hi h.size) hm).trans (h.block i hi hm)⟩
theorem LatP.wider (h : LatP M W w) (hMN : ∀ k, M k → N k) : LatP N W w := ⟨h.os, h.tape, h.output, h.size, fun k hk hn => h.block k hk (fun hm => hn (hMN k hm))⟩
theorem Lat.p (h : Lat W w) (M : Nat → Prop) : LatP M W w := ⟨Below.os h, Below.tape h, Below.output h, h.size, fun k hk _ => Below.block h k hk⟩
theorem LatP.lat {W0 : World} (h0 : Lat W0 W) (h : LatP M W w) (hM : ∀ k, M k → W0.heap.size ≤ k) : Lat W0 w :=
  ⟨h.os.trans (Below.os h0), h.tape.trans (Below.tape h0), h.output.trans (Below.output h0), Nat.le_trans h0.size h.size, fun k hk => (h.block k (Nat.lt_of_lt_of_le hk h0.size) (fun hm => by have := hM k hm; omega)).trans (Below.block h0 k hk)⟩
theorem Blk.keepP {g : Nat} {t : TypeId} {cs : Array Value} (h : Blk W g t cs) (hl : LatP M W w) (hg : ¬ M g) : Blk w g t cs := (hl.block g h.lt hg).trans h
end

/-- A store into a cell of a block that is known whole: the new world under a name. -/
theorem name_set {w : World} {g : Nat} {t : TypeId} {cs : Array Value} {i : Nat} {u : Value} {Q : World → Prop} (hb : Blk w g t cs)
    (h : ∀ W', Blk W' g t (cs.setIfInBounds i u) → (∀ k, k ≠ g → W'.heap[k]? = w.heap[k]?) → W'.heap.size = w.heap.size → LatP (· = g) w W' → Q W') : Q (w.setCell ⟨g, i, none⟩ u) := by
  have hs : (w.setCell ⟨g, i, none⟩ u).heap.size = w.heap.size := by simp [World.setCell]
  have hk : ∀ k, k ≠ g → (w.setCell ⟨g, i, none⟩ u).heap[k]? = w.heap[k]? := fun k hk => Below.heap_setCell w ⟨g, i, none⟩ u k hk
  exact h _ (hb.set i u) hk hs ⟨rfl, rfl, rfl, by omega, fun k _ hne => hk k hne⟩

/-- Where the parts of a race lie. -/
structure Site where
  G : Nat → Nat
  C : List Nat
  A : Option Addr
  n : Nat
  c : Nat
  br : Nat
  bt : Nat
  rc : Nat
  td : Nat

/-- The blocks of the race. -/
def Site.mine (s : Site) (k : Nat) : Prop := k = s.br ∨ k = s.bt ∨ k = s.rc ∨ k = s.td ∨ (∃ i ∈ s.C, k = s.G i) ∨ ∃ a, s.A = some a ∧ k = a.block

/-- The parts of a race lie apart. -/
structure Site.Apart (s : Site) : Prop where
  nodup : s.C.Nodup
  inj : ∀ i j, i ∈ s.C → j ∈ s.C → s.G i = s.G j → i = j
  br_bt : s.br ≠ s.bt
  br_rc : s.br ≠ s.rc
  br_td : s.br ≠ s.td
  bt_rc : s.bt ≠ s.rc
  bt_td : s.bt ≠ s.td
  rc_td : s.rc ≠ s.td
  g_br : ∀ i, i ∈ s.C → s.G i ≠ s.br
  g_bt : ∀ i, i ∈ s.C → s.G i ≠ s.bt
  g_rc : ∀ i, i ∈ s.C → s.G i ≠ s.rc
  g_td : ∀ i, i ∈ s.C → s.G i ≠ s.td
  a_rc : ∀ a, s.A = some a → a.block ≠ s.rc
  a_td : ∀ a, s.A = some a → a.block ≠ s.td
  a_g : ∀ a, s.A = some a → ∀ i, i ∈ s.C → a.block ≠ s.G i

/-- The memory of a race: the seats so far, what is left, the tied ones. -/
structure Mem (s : Site) (m : Int) (R : Int → Int → List Value → Prop) (P S : List Int) (left : Int) (tv : Value) (W : World) : Prop where
  br : Blk W s.br 249 #[.pointer (some ⟨s.rc, 0, none⟩)]
  bt : Blk W s.bt 217 #[.pointer (some ⟨s.td, 0, none⟩)]
  rc : Blk W s.rc 206 #[.int .i64 m, .slice s.A s.n s.c, .int .i64 left]
  td : Blk W s.td 204 #[tv]
  row : Row W s.A s.n (ptrs s.G s.C)
  cl : ∀ i, i ∈ s.C → Cl R W (s.G i) i (atI P i) (atI S i)

section
variable {s : Site} {m : Int} {R : Int → Int → List Value → Prop} {P S : List Int} {left : Int} {tv : Value} {W w : World}
theorem Mem.keep {M : Nat → Prop} (h : Mem s m R P S left tv W) (hl : LatP M W w) (hM : ∀ k, s.mine k → ¬ M k) : Mem s m R P S left tv w :=
  ⟨h.br.keepP hl (hM _ (.inl rfl)), h.bt.keepP hl (hM _ (.inr (.inl rfl))), h.rc.keepP hl (hM _ (.inr (.inr (.inl rfl)))), h.td.keepP hl (hM _ (.inr (.inr (.inr (.inl rfl))))),
   by
     refine ⟨h.row.1, fun hn => ?_⟩
     obtain ⟨a, e, hlt, hc⟩ := h.row.2 hn
     refine ⟨a, e, Nat.lt_of_lt_of_le hlt hl.size, fun j x hx => ?_⟩
     rw [← hc j x hx]
     exact World.cell?_of_block (by rw [block_add]; exact hl.block _ hlt (hM _ (.inr (.inr (.inr (.inr (.inr ⟨a, e, rfl⟩)))))))
   , fun i hi => (h.cl i hi).kept (hl.block _ (h.cl i hi).lt (hM _ (.inr (.inr (.inr (.inr (.inl ⟨i, hi, rfl⟩)))))))⟩
theorem Mem.later (h : Mem s m R P S left tv W) (hl : Lat W w) : Mem s m R P S left tv w := h.keep (hl.p (fun _ => False)) (fun _ _ h => h)
/-- What is left changes. -/
theorem Mem.left_set {left' : Int} (h : Mem s m R P S left tv W) (hA : s.Apart) (hb : Blk w s.rc 206 #[.int .i64 m, .slice s.A s.n s.c, .int .i64 left']) (hk : ∀ k, k ≠ s.rc → w.heap[k]? = W.heap[k]?) (hs : W.heap.size ≤ w.heap.size) :
    Mem s m R P S left' tv w :=
  ⟨(hk _ hA.br_rc).trans h.br, (hk _ hA.bt_rc).trans h.bt, hb, (hk _ (Ne.symm hA.rc_td)).trans h.td, h.row.kept hs (fun a e => hk _ (hA.a_rc a e)), fun i hi => (h.cl i hi).kept (hk _ (hA.g_rc i hi))⟩
/-- The tied ones are set. -/
theorem Mem.tied_set {tv' : Value} (h : Mem s m R P S left tv W) (hA : s.Apart) (hb : Blk w s.td 204 #[tv']) (hk : ∀ k, k ≠ s.td → w.heap[k]? = W.heap[k]?) (hs : W.heap.size ≤ w.heap.size) :
    Mem s m R P S left tv' w :=
  ⟨(hk _ hA.br_td).trans h.br, (hk _ hA.bt_td).trans h.bt, (hk _ hA.rc_td).trans h.rc, hb, h.row.kept hs (fun a e => hk _ (hA.a_td a e)), fun i hi => (h.cl i hi).kept (hk _ (hA.g_td i hi))⟩
/-- A claimant has one seat more. -/
theorem Mem.bump {i : Nat} (h : Mem s m R P S left tv W) (hA : s.Apart) (hi : i ∈ s.C) (hl : i < S.length) (hk : ∀ k, k < W.heap.size → k ≠ s.G i → w.heap[k]? = W.heap[k]?) (hs : W.heap.size ≤ w.heap.size)
    (hc : Cl R w (s.G i) i (atI P i) (atI S i + 1)) : Mem s m R P (S.set i (atI S i + 1)) left tv w :=
  ⟨(hk _ h.br.lt (Ne.symm (hA.g_br i hi))).trans h.br, (hk _ h.bt.lt (Ne.symm (hA.g_bt i hi))).trans h.bt, (hk _ h.rc.lt (Ne.symm (hA.g_rc i hi))).trans h.rc, (hk _ h.td.lt (Ne.symm (hA.g_td i hi))).trans h.td,
   by
     refine ⟨h.row.1, fun hn => ?_⟩
     obtain ⟨a, e, hlt, hc⟩ := h.row.2 hn
     refine ⟨a, e, Nat.lt_of_lt_of_le hlt hs, fun j x hx => ?_⟩
     rw [← hc j x hx]
     exact World.cell?_of_block (by rw [block_add]; exact hk _ hlt (hA.a_g a e i hi))
   , fun j hj => by
     by_cases e : i = j
     · subst e; rw [atI_set_same hl]; exact hc
     · rw [atI_set_ne e]
       exact (h.cl j hj).kept (hk _ (h.cl j hj).lt (fun h' => e (hA.inj i j hi hj h'.symm)))⟩
end

/-- What the race holds as left. -/
def leftOf (rc : Nat) (w : World) : Nat := ((w.cell? ⟨rc, 2, none⟩).map fun v => (intOf v).toNat).getD 0
theorem leftOf_of {rc : Nat} {w : World} {x y : Value} {left : Int} {t : TypeId} (h : Blk w rc t #[x, y, .int .i64 left]) : leftOf rc w = left.toNat := by
  unfold leftOf
  rw [h.cell 2]
  rfl

theorem LatP.setCells {g : Nat} (vs : List Value) : ∀ (w : World) (o : Nat), LatP (· = g) w (w.setCells g o vs) := by
  induction vs with
  | nil => exact fun w o => LatP.refl _ _
  | cons x r ih =>
    intro w o
    refine LatP.trans ?_ (ih (w.setCell ⟨g, o, none⟩ x) (o + 1))
    exact ⟨rfl, rfl, rfl, by simp [World.setCell], fun k _ hk => Below.heap_setCell w ⟨g, o, none⟩ x k hk⟩
/-- A store into all cells behind the third. -/
theorem put_tail {w : World} {g : Nat} {t : TypeId} {x y z : Value} {T T' : List Value} (h : Blk w g t (x :: y :: z :: T).toArray) (hl : T.length = T'.length) : Blk (w.setCells g 3 T') g t (x :: y :: z :: T').toArray := by
  obtain ⟨cs', h1, h2, h3, h4⟩ := Blk.setCells_at T' w 3 _ h (by simp; omega)
  have : cs' = (x :: y :: z :: T').toArray := by
    apply Array.ext_getElem?
    intro j
    rcases Nat.lt_or_ge j 3 with hj | hj
    · rw [h4 j hj]
      have : j = 0 ∨ j = 1 ∨ j = 2 := by omega
      rcases this with rfl | rfl | rfl <;> simp
    · obtain ⟨k, rfl⟩ : ∃ k, j = 3 + k := ⟨j - 3, by omega⟩
      rcases Nat.lt_or_ge k T'.length with hk | hk
      · rw [h3 k T'[k] (List.getElem?_eq_getElem hk)]
        rw [Nat.add_comm]; simp [hk]
      · rw [Array.getElem?_eq_none (by rw [h2]; simp; omega), Array.getElem?_eq_none (by simp; omega)]
  rw [this] at h1
  exact h1
theorem there_tail {w : World} {g : Nat} {t : TypeId} {x y z : Value} {T : List Value} (h : Blk w g t (x :: y :: z :: T).toArray) {n : Nat} (hl : T.length = n) : w.there g 3 n := fun j hj => by
  refine ⟨?_, h.frozen _⟩
  rw [h.cell (3 + j), Nat.add_comm]
  simp
  omega
end Go.Proofs.YtkiaaefkobfkgaaGreat

/- Divisor: the iterator of a race. -/
namespace Go.Proofs.YtkiaaefkobfkgaaGreat
open Go.RowKit Go.Shelf
set_option linter.unusedSimpArgs false

/-- The tied ones, as the race tells them. -/
def TiedIs (G : Nat → Nat) (l : List Nat) (tv : Value) (W : World) : Prop := ∃ A c, tv = .slice A l.length c ∧ Row W A l.length (ptrs G l)
/-- The seats stay small. -/
def Small (C : List Nat) (S : List Int) (left : Int) : Prop := ∀ i ∈ C, 0 ≤ atI S i ∧ atI S i + left ≤ 1000 ∧ i < S.length
theorem small_bump {C : List Nat} {S : List Int} {left : Int} {i : Nat} (h : Small C S left) (hl : i < S.length) : Small C (S.set i (atI S i + 1)) (left - 1) := by
  intro j hj
  obtain ⟨h1, h2, h3⟩ := h j hj
  refine ⟨?_, ?_, by simpa using h3⟩
  · by_cases e : i = j
    · subst e; rw [atI_set_same hl]; omega
    · rw [atI_set_ne e]; exact h1
  · by_cases e : i = j
    · subst e; rw [atI_set_same hl]; omega
    · rw [atI_set_ne e]; omega

/-- What the iterator leaves. -/
def SeatsPost (s : Site) (m : Int) (R : Int → Int → List Value → Prop) (P : List Int) (A : Aw) (I : List Int → List Nat → Option Nat → World → Prop) (J : List Int → List Nat → World → Prop) (e : Ending) (W : World) : Prop :=
  (∃ v, e = .returned v) ∧ ∃ tv lv, Mem s m R P A.seats lv tv W ∧ TiedIs s.G A.tied tv W ∧ (A.tied ≠ [] → lv = A.left) ∧ ((∃ g, I A.seats A.order g W) ∨ J A.seats A.order W)

/-- A round of the loop over the iterator, as the iterator sees it. (g: the block that the body's own slice lies in.) -/
def Yields (s : Site) (R : Int → Int → List Value → Prop) (P : List Int) (L0 : Int) (l : Nat) (theirs : Nat → Prop) (I : List Int → List Nat → Option Nat → World → Prop) (J : List Int → List Nat → World → Prop) : Prop :=
  ∀ (S : List Int) (o : List Nat) (i : Nat) (g : Option Nat) (W : World), i ∈ s.C → i < S.length → I S o g W → Cl R W (s.G i) i (atI P i) (atI S i + 1) → ((o.length : Int) + 1 ≤ L0) →
    YieldAt Fence.wide 2 Tryz.prog l #[pt (s.G i)] W (fun e W' => ∃ b, e = .returned (.bool b) ∧ LatP (fun k => theirs k ∨ some k = g) W W' ∧
      (b = true → ∃ g', I (S.set i (atI S i + 1)) (o ++ [i]) g' W') ∧ (b = false → J (S.set i (atI S i + 1)) (o ++ [i]) W' ∧ L0 ≤ (o.length : Int) + 1))

set_option maxRecDepth 100000 in
set_option maxHeartbeats 4000000 in
theorem seats_iter {s : Site} {m : Int} {R : Int → Int → List Value → Prop} {f : Int → Int → Int → Int → Int} {P : List Int} {A : Aw} (hW : RankWay m R f) (hA : s.Apart) (hC : s.C ≠ []) (hn : s.n ≤ 1000)
    (hP : ∀ i ∈ s.C, 1 ≤ atI P i ∧ atI P i ≤ 1000000000) (L0 : Int) (_hL0 : L0 ≤ 1000) (l : Nat) (theirs : Nat → Prop) (I : List Int → List Nat → Option Nat → World → Prop) (J : List Int → List Nat → World → Prop)
    (hI : ∀ S o g W W', I S o g W → LatP s.mine W W' → I S o g W') (hg : ∀ S o g W, I S o g W → ∀ k, g = some k → ¬ s.mine k ∧ k < W.heap.size ∧ ∃ cs, Blk W k 3 cs) (hth : ∀ k, theirs k → ¬ s.mine k) (hY : Yields s R P L0 l theirs I J)
    (S0 : List Int) (W : World) (htw : ∀ k, theirs k → k < W.heap.size) (hS0 : Small s.C S0 L0) (hM0 : Mem s m R P S0 L0 (.slice none 0 0) W) (hG0 : Goes f P s.C A S0 L0 []) (g0 : Option Nat) (hI0 : I S0 [] g0 W) (h0 : 0 ≤ L0) :
    Calls Tryz.prog 186 #[.func (.yield l) #[] #[], pt s.br, pt s.bt] W (SeatsPost s m R P A I J) := by
  have HI := Lib.hid hI
  have HP := Lib.hid hP
  have HG := Lib.hid hg
  have HTH := Lib.hid hth
  have HTW := Lib.hid htw
  clear hI hP hg hth htw
  go_enter Tryz.func186, Tryz.ntmps186
  go_wp2
  go_loopw [4] (fun _ wr => ∃ S left o g, Mem s m R P S left (.slice none 0 0) wr ∧ I S o g wr ∧ Goes f P s.C A S left o ∧ 0 ≤ left ∧ Hid (left = L0 - o.length) ∧ Small s.C S left ∧ W.heap.size ≤ wr.heap.size) (fun _ wr => leftOf s.rc wr)
  case atStart => exact ⟨S0, L0, [], g0, hM0, hI0, hG0, h0, by show _ = _; simp, hS0, Nat.le_refl _⟩
  case round =>
    obtain ⟨S, left, o, g, hM, hI1, hG, hl0, hlo, hS, hWr⟩ := hrel
    clear hS0 hM0 hG0 hI0
    have c1 := hM.br.cell 0
    have c2 := hM.rc.cell 2
    have c3 := hM.rc.cell 1
    by_cases h0 : 0 < left
    · go_wp2_with fail
      have HC := best_any (vs f P S) s.G s.C s.A s.n s.c 188 wr hM.row hn (enters_of Tryz.func188 (by kernel_rfl) rfl) (fun i j w' hi hj hl => cmpCl hW (s.G i) (s.G j) i (atI P i) (atI S i) j (atI P j) (atI S j) w' ((hM.cl i hi).later hl) ((hM.cl j hj).later hl))
      have hb0 := List.length_pos_iff.2 (bestL_ne (c := vs f P S) hC)
      have hsub := Lib.hid (bestL_sub (vs f P S) s.C)
      have hbl : (bestL (vs f P S) s.C).length ≤ 1000 := by
        have := hsub.out.length_le
        have h2 := hM.row.1
        rw [ptrs_length] at h2
        omega
      refine HC.mono ?_
      clear HC
      rintro e w1 ⟨A2, c2', rfl, hrow2, hcap2, l1, hfresh⟩
      have hM1 := hM.later l1
      have HLW := Lib.hid (leftOf_of hM.rc)
      have htd := hM.td.lt
      have hI2 := HI.out _ _ _ _ _ hI1 (l1.p _)
      have hW1 := l1.size
      have HQ : Hid (∀ a, A2 = some a → ¬ theirs a.block ∧ ¬ s.mine a.block ∧ a.block < w1.heap.size) := by
        intro a e
        have h1 := (hfresh a e).1
        have h2 : a.block < w1.heap.size := by
          obtain ⟨a', e', h, _⟩ := hrow2.2 hb0
          rw [e] at e'; cases e'; exact h
        refine ⟨fun ht => ?_, fun hm => ?_, h2⟩
        · have := HTW.out _ ht; omega
        · rcases hm with hm | hm | hm | hm | ⟨i, hi, hm⟩ | ⟨a', ea, hm⟩
          · have := hM.br.lt; omega
          · have := hM.bt.lt; omega
          · have := hM.rc.lt; omega
          · omega
          · have := (hM.cl i hi).lt; omega
          · have hr := hM.row.2
            by_cases hn0 : 0 < s.n
            · obtain ⟨a'', e'', h, _⟩ := hr hn0
              rw [ea] at e''; cases e''; omega
            · have h3 := hM.row.1
              rw [ptrs_length] at h3
              have := List.length_pos_iff.2 hC
              omega
      clear hM hI1 c1 c2 c3
      by_cases ht : left < (bestL (vs f P S) s.C).length
      · have hAe := hG.tie h0 ht
        have HA' := Lib.hid hAe
        have HR := Lib.hid hrow2
        obtain ⟨b, hb⟩ : ∃ b, bestL (vs f P S) s.C = b := ⟨_, rfl⟩
        rw [hb] at ht HA' HR hb0 hbl hcap2 ⊢
        have HF := Lib.hid hfresh
        clear hAe hrow2 hsub hb hG hW hfresh
        have c1 := hM1.br.cell 0
        have c2 := hM1.rc.cell 2
        have c4 := hM1.bt.cell 0
        have c5 := hM1.td.cell 0
        have f5 := hM1.td.frozen 0
        have hbi : (left : Int) < (b.length : Int) := ht
        go_wp2
        refine name_set (Q := fun W => bodyPost _ _ _ _ _ W) hM1.td ?_
        intro w2 k2 hk2 hs2 hl2
        refine bodyPost_ret (results_none rfl _ _ _) rfl ?_
        refine ⟨⟨_, rfl⟩, .slice A2 b.length c2', left, ?_, ?_, ?_, .inl ⟨g, ?_⟩⟩
        · rw [HA'.out]; exact hM1.tied_set hA k2 hk2 (by omega)
        · rw [HA'.out]
          refine ⟨A2, c2', rfl, HR.out.kept (by omega) (fun a e => hk2 _ (by have := (HF.out a e).1; omega))⟩
        · intro _; rw [HA'.out]
        · rw [HA'.out]
          exact HI.out _ _ _ _ _ hI2 (hl2.wider (fun k e => .inr (.inr (.inr (.inl e)))))
      · have HGs := Lib.hid (hG.step hC h0 ht)
        obtain ⟨b, hb⟩ : ∃ b, bestL (vs f P S) s.C = b := ⟨_, rfl⟩
        rw [hb] at ht hb0 hbl hcap2 HGs hrow2 hsub ⊢
        have HQ2 : Hid (∀ a, A2 = some a → ∃ cs, Blk w1 a.block 207 cs) := fun a e => (hfresh a e).2
        clear hb hG hfresh
        have c1 := hM1.br.cell 0
        have c2 := hM1.rc.cell 2
        have hbi : ¬ (left : Int) < (b.length : Int) := ht
        obtain ⟨wo, rfl⟩ : ∃ wo : World, wo = wr := ⟨_, rfl⟩
        go_wp2
        go_loopw [29] (fun i wx => ∃ (j : Nat) (g' : Option Nat), j ≤ b.length ∧ i = .int .i64 j ∧ Mem s m R P (bump S (b.take j)) (left - j) (.slice none 0 0) wx ∧ I (bump S (b.take j)) (o ++ b.take j) g' wx ∧ Small s.C (bump S (b.take j)) (left - j) ∧ Row wx A2 b.length (ptrs s.G b) ∧ Hid (∀ a, A2 = some a → ∃ cs, Blk wx a.block 207 cs) ∧ w1.heap.size ≤ wx.heap.size) (fun i _ => b.length - (intOf i).toNat)
        case atStart => exact ⟨0, g, Nat.zero_le _, rfl, by simpa [bump_nil] using hM1, by simpa [bump_nil] using hI2, by simpa [bump_nil] using hS, hrow2, HQ2.out, Nat.le_refl _⟩
        case round =>
          obtain ⟨j, g', hj, rfl, hMj, hIj, hSj, hrj, hgj, hwj⟩ := hrel
          clear c1 c2 hM1 hI2
          by_cases hlt : j < b.length
          · obtain ⟨a, u, rfl, ha, hu, hcell⟩ := hrj.at hlt
            obtain ⟨i, hbi', rfl⟩ := ptrs_get hu
            have hiC := hsub.out.subset (List.mem_of_getElem? hbi')
            have hcx : wr.cell? (a.add j) = some (.pointer (some ⟨s.G i, 0, none⟩)) := hcell
            have HB := Lib.hid (bump_take (S := S) hbi')
            have HT : Hid (b.take (j + 1) = b.take j ++ [i]) := by
              show _ = _
              obtain ⟨hl, rfl⟩ := List.getElem?_eq_some_iff.1 hbi'
              rw [List.take_succ_eq_append_getElem hl]
            have HSm := hSj i hiC
            have HPi := HP.out i hiC
            have HLE : Hid (((b.take j).length : Int) = (j : Int)) := by show _ = _; rw [List.length_take]; omega
            obtain ⟨Sj, hSje⟩ : ∃ Sj, bump S (b.take j) = Sj := ⟨_, rfl⟩
            obtain ⟨oj, hoje⟩ : ∃ oj, o ++ b.take j = oj := ⟨_, rfl⟩
            rw [hSje] at hMj hIj hSj HSm HB
            rw [hoje] at hIj
            have HSJ := Lib.hid hSje
            have HOJ := Lib.hid hoje
            have HLJ := Lib.hid (leftOf_of hMj.rc)
            obtain ⟨lj, hlje⟩ : ∃ lj, left - (j : Int) = lj := ⟨_, rfl⟩
            rw [hlje] at hMj hSj HSm
            have hlj1 : 1 ≤ lj := by omega
            have hlj2 : lj ≤ 1000 := by have := hlo.out; omega
            have HLJ2 : Hid (lj = L0 - (oj.length : Int)) := by
              show _ = _
              rw [← HOJ.out, List.length_append]
              have := hlo.out; have := HLE.out
              omega
            have HLJE := Lib.hid hlje
            clear hSje hoje hlje hu hcell hbi' hl0 HLJ
            have c1 := hMj.br.cell 0
            have c2 := hMj.rc.cell 2
            have f2 := hMj.rc.frozen 2
            go_upto_region 8 with (fail)
            refine name_set (Q := fun W => Code.wp _ _ _ _ W) hMj.rc ?_
            intro w2 k2 hk2 hs2 hl2
            have hM2 : Mem s m R P Sj (lj - 1) (.slice none 0 0) w2 := hMj.left_set hA k2 hk2 (by omega)
            obtain ⟨T, hRT, kB⟩ := hM2.cl i hiC
            obtain ⟨p, hp⟩ : ∃ p, atI P i = p := ⟨_, rfl⟩
            obtain ⟨q, hq⟩ : ∃ q, atI Sj i = q := ⟨_, rfl⟩
            rw [hp] at kB HPi
            rw [hq] at kB HSm
            have HPE := Lib.hid hp
            have HQE := Lib.hid hq
            have q0 := HSm.1
            have q1 : q + 1 ≤ 1000 := by have := HSm.2.1; omega
            have hiL := HSm.2.2
            have p0 := HPi.1
            have p1 := HPi.2
            clear c1 c2 f2 hp hq HSm HPi k2
            have c3 := kB.cell 2
            have f3 := kB.frozen 2
            go_upto_region 9 with (fail)
            refine name_set (Q := fun W => Code.wp _ _ _ _ W) kB ?_
            intro w3 k3 hk3 hs3 hl3
            have k3' : Blk w3 (s.G i) 214 (.int .i64 i :: .int .i64 p :: .int .i64 (q + 1) :: T).toArray := by simpa using k3
            have HTL := Lib.hid (hW.len hRT)
            clear c3 f3 k3 kB
            have kbr : Blk w3 s.br 249 #[.pointer (some ⟨s.rc, 0, none⟩)] := (hk3 _ (Ne.symm (hA.g_br i hiC))).trans hM2.br
            have krc : Blk w3 s.rc 206 #[.int .i64 m, .slice s.A s.n s.c, .int .i64 (lj - 1)] := (hk3 _ (Ne.symm (hA.g_rc i hiC))).trans hM2.rc
            have HR := Lib.hid (fun w => hW.ranked p (q + 1) w p0 p1 (by omega) q1)
            have HGB := Lib.hid (hA.g_br i hiC)
            have HGR := Lib.hid (hA.g_rc i hiC)
            refine wp_region_held_drew (S := fun w' => LatP (· = s.G i) w3 w' ∧ ∃ T : List Value, T.length = 17 ∧ Blk w' (s.G i) 214 (.int .i64 i :: .int .i64 p :: .int .i64 (q + 1) :: T).toArray) (by kernel_rfl) ⟨(Lat.drew w3).p _, T, HTL.out, k3'.later (Lat.drew w3)⟩ (fun hHeld => ?_)
            have D1 : ∀ w', (LatP (· = s.G i) w3 w' ∧ ∃ T : List Value, T.length = 17 ∧ Blk w' (s.G i) 214 (.int .i64 i :: .int .i64 p :: .int .i64 (q + 1) :: T).toArray) → w'.cell? ⟨s.br, 0, none⟩ = some (.pointer (some ⟨s.rc, 0, none⟩)) := fun w' h => (kbr.keepP h.1 (Ne.symm HGB.out)).cell 0
            have D2 : ∀ w', (LatP (· = s.G i) w3 w' ∧ ∃ T : List Value, T.length = 17 ∧ Blk w' (s.G i) 214 (.int .i64 i :: .int .i64 p :: .int .i64 (q + 1) :: T).toArray) → w'.cell? ⟨s.rc, 0, none⟩ = some (.int .i64 m) := fun w' h => (krc.keepP h.1 (Ne.symm HGR.out)).cell 0
            have D3 : ∀ w', (LatP (· = s.G i) w3 w' ∧ ∃ T : List Value, T.length = 17 ∧ Blk w' (s.G i) 214 (.int .i64 i :: .int .i64 p :: .int .i64 (q + 1) :: T).toArray) → w'.cell? ⟨s.G i, 1, none⟩ = some (.int .i64 p) := fun w' h => by obtain ⟨_, T, _, k⟩ := h; simpa using k.cell 1
            have D4 : ∀ w', (LatP (· = s.G i) w3 w' ∧ ∃ T : List Value, T.length = 17 ∧ Blk w' (s.G i) 214 (.int .i64 i :: .int .i64 p :: .int .i64 (q + 1) :: T).toArray) → w'.cell? ⟨s.G i, 2, none⟩ = some (.int .i64 (q + 1)) := fun w' h => by obtain ⟨_, T, _, k⟩ := h; simpa using k.cell 2
            refine wpAnyH_take (i := 0) (v := .pointer (some ⟨s.G i, 0, none⟩)) rfl (by kernel_rfl) (by kernel_rfl) (by kernel_rfl) (fun _ _ _ h => h) (Or.inl ⟨by rfl, by intro w' hS; go_simp⟩) hHeld ?_
            simp only [Act.put, List.setIfInBounds_toArray, List.set_cons_zero, List.set_cons_succ]
            refine wpAnyH_take (i := 1) (v := .pointer (some ⟨s.rc, 0, none⟩)) rfl (by kernel_rfl) (by kernel_rfl) (by kernel_rfl) (fun _ _ _ h => h) (Or.inl ⟨by rfl, by intro w' hS; have hc := D1 w' hS; go_simp⟩) hHeld ?_
            simp only [Act.put, List.setIfInBounds_toArray, List.set_cons_zero, List.set_cons_succ]
            refine wpAnyH_take (i := 2) (v := .pointer (some ⟨s.rc, 0, none⟩)) rfl (by kernel_rfl) (by kernel_rfl) (by kernel_rfl) (fun _ _ _ h => h) (Or.inl ⟨by rfl, by intro w' hS; go_simp⟩) hHeld ?_
            simp only [Act.put, List.setIfInBounds_toArray, List.set_cons_zero, List.set_cons_succ]
            refine wpAnyH_take (i := 3) (v := .pointer (some ⟨s.rc, 0, none⟩)) rfl (by kernel_rfl) (by kernel_rfl) (by kernel_rfl) (fun _ _ _ h => h) (Or.inl ⟨by rfl, by intro w' hS; go_simp⟩) hHeld ?_
            simp only [Act.put, List.setIfInBounds_toArray, List.set_cons_zero, List.set_cons_succ]
            refine wpAnyH_take (i := 4) (v := .int .i64 m) rfl (by kernel_rfl) (by kernel_rfl) (by kernel_rfl) (fun _ _ _ h => h) (Or.inl ⟨by rfl, by intro w' hS; have hc := D2 w' hS; go_simp⟩) hHeld ?_
            simp only [Act.put, List.setIfInBounds_toArray, List.set_cons_zero, List.set_cons_succ]
            refine wpAnyH_take (i := 5) (v := .pointer (some ⟨s.G i, 0, none⟩)) rfl (by kernel_rfl) (by kernel_rfl) (by kernel_rfl) (fun _ _ _ h => h) (Or.inl ⟨by rfl, by intro w' hS; go_simp⟩) hHeld ?_
            simp only [Act.put, List.setIfInBounds_toArray, List.set_cons_zero, List.set_cons_succ]
            refine wpAnyH_take (i := 6) (v := .pointer (some ⟨s.G i, 0, none⟩)) rfl (by kernel_rfl) (by kernel_rfl) (by kernel_rfl) (fun _ _ _ h => h) (Or.inl ⟨by rfl, by intro w' hS; go_simp⟩) hHeld ?_
            simp only [Act.put, List.setIfInBounds_toArray, List.set_cons_zero, List.set_cons_succ]
            refine wpAnyH_take (i := 7) (v := .pointer (some ⟨s.G i, 0, none⟩)) rfl (by kernel_rfl) (by kernel_rfl) (by kernel_rfl) (fun _ _ _ h => h) (Or.inl ⟨by rfl, by intro w' hS; go_simp⟩) hHeld ?_
            simp only [Act.put, List.setIfInBounds_toArray, List.set_cons_zero, List.set_cons_succ]
            refine wpAnyH_take (i := 8) (v := .pointer (some ⟨s.G i, 1, none⟩)) rfl (by kernel_rfl) (by kernel_rfl) (by kernel_rfl) (fun _ _ _ h => h) (Or.inl ⟨by rfl, by intro w' hS; go_simp⟩) hHeld ?_
            simp only [Act.put, List.setIfInBounds_toArray, List.set_cons_zero, List.set_cons_succ]
            refine wpAnyH_take (i := 9) (v := .int .i64 p) rfl (by kernel_rfl) (by kernel_rfl) (by kernel_rfl) (fun _ _ _ h => h) (Or.inl ⟨by rfl, by intro w' hS; have hc := D3 w' hS; go_simp⟩) hHeld ?_
            simp only [Act.put, List.setIfInBounds_toArray, List.set_cons_zero, List.set_cons_succ]
            refine wpAnyH_take (i := 10) (v := .pointer (some ⟨s.G i, 0, none⟩)) rfl (by kernel_rfl) (by kernel_rfl) (by kernel_rfl) (fun _ _ _ h => h) (Or.inl ⟨by rfl, by intro w' hS; go_simp⟩) hHeld ?_
            simp only [Act.put, List.setIfInBounds_toArray, List.set_cons_zero, List.set_cons_succ]
            refine wpAnyH_take (i := 11) (v := .pointer (some ⟨s.G i, 0, none⟩)) rfl (by kernel_rfl) (by kernel_rfl) (by kernel_rfl) (fun _ _ _ h => h) (Or.inl ⟨by rfl, by intro w' hS; go_simp⟩) hHeld ?_
            simp only [Act.put, List.setIfInBounds_toArray, List.set_cons_zero, List.set_cons_succ]
            refine wpAnyH_take (i := 12) (v := .pointer (some ⟨s.G i, 2, none⟩)) rfl (by kernel_rfl) (by kernel_rfl) (by kernel_rfl) (fun _ _ _ h => h) (Or.inl ⟨by rfl, by intro w' hS; go_simp⟩) hHeld ?_
            simp only [Act.put, List.setIfInBounds_toArray, List.set_cons_zero, List.set_cons_succ]
            refine wpAnyH_take (i := 13) (v := .int .i64 (q + 1)) rfl (by kernel_rfl) (by kernel_rfl) (by kernel_rfl) (fun _ _ _ h => h) (Or.inl ⟨by rfl, by intro w' hS; have hc := D4 w' hS; go_simp⟩) hHeld ?_
            simp only [Act.put, List.setIfInBounds_toArray, List.set_cons_zero, List.set_cons_succ]
            refine wpAnyH_ready (rs := [14]) (by kernel_rfl) (by simp) (AllReadyH.cons rfl (fun K hK => ?_) AllReadyH.nil)
            go_simp
            refine (HR.out _).mono ?_
            rintro e w4 ⟨T', rfl, hRT', l4⟩
            have hS4 : LatP (· = s.G i) w3 w4 ∧ ∃ T : List Value, T.length = 17 ∧ Blk w4 (s.G i) 214 (.int .i64 i :: .int .i64 p :: .int .i64 (q + 1) :: T).toArray := by
              obtain ⟨h1, T, h2, h3⟩ := hHeld
              exact ⟨h1.trans (l4.p _), T, h2, h3.later l4⟩
            have HRT := Lib.hid hRT'
            clear hRT'
            refine hK.out _ _ hS4 (fun hHeld2 => ?_)
            clear hK K hHeld D1 D2 D3 D4
            refine wpAnyH_take (i := 15) (v := .pointer (some ⟨s.G i, 0, none⟩)) rfl (by kernel_rfl) (by kernel_rfl) (by kernel_rfl) (fun _ _ _ h => h) (Or.inl ⟨by rfl, by intro w' hS; go_simp⟩) hHeld2 ?_
            simp only [Act.put, List.setIfInBounds_toArray, List.set_cons_zero, List.set_cons_succ]
            refine wpAnyH_take (i := 16) (v := .pointer (some ⟨s.G i, 3, none⟩)) rfl (by kernel_rfl) (by kernel_rfl) (by kernel_rfl) (fun _ _ _ h => h) (Or.inl ⟨by rfl, by intro w' hS; go_simp⟩) hHeld2 ?_
            simp only [Act.put, List.setIfInBounds_toArray, List.set_cons_zero, List.set_cons_succ]
            refine wpAnyH_ready (rs := [17]) (by kernel_rfl) (by simp) (AllReadyH.cons rfl (fun K hK => ?_) AllReadyH.nil)
            rw [if_pos (by rfl)]
            obtain ⟨hl4, T4, ht4, k4⟩ := hHeld2
            have hlen' : T'.length = 17 := hW.len HRT.out
            refine wp_store_mid 211 (.tmp 63) (.tmp 61) rfl (s.G i) 3 T'.toArray rfl rfl (there_tail k4 (by rw [ht4, List.size_toArray, hlen'])) (by rw [List.size_toArray, hlen']; exact rankInfo17) (all_oneCell_toArray (hW.one HRT.out)) ?_
            have k5 := put_tail (T' := T') k4 (by rw [ht4, hlen'])
            have hl5 := LatP.setCells (g := s.G i) T' w4 3
            have hS5 : LatP (· = s.G i) w3 (w4.setCells (s.G i) 3 T') ∧ ∃ T : List Value, T.length = 17 ∧ Blk (w4.setCells (s.G i) 3 T') (s.G i) 214 (.int .i64 i :: .int .i64 p :: .int .i64 (q + 1) :: T).toArray := ⟨hl4.trans hl5, T', hlen', k5⟩
            refine hK.out _ _ hS5 (fun hHeld3 => ?_)
            clear hK K
            have hlw5 : LatP (· = s.G i) w3 (w4.setCells (s.G i) 3 T') := hl4.trans hl5
            obtain ⟨w5, hw5⟩ : ∃ w5, w4.setCells (s.G i) 3 T' = w5 := ⟨_, rfl⟩
            rw [hw5] at k5 hlw5 ⊢
            clear hw5 hS5 hHeld3 hl5 hl4 k4 ht4 T4 k3' kbr krc HR
            refine wpAnyH_done (by kernel_rfl) ?_ _
            have hC5 : Cl R w5 (s.G i) i (atI P i) (atI Sj i + 1) := ⟨T', by rw [HPE.out, HQE.out]; exact HRT.out, by rw [HPE.out, HQE.out]; exact k5⟩
            have hl25 : LatP (· = s.G i) w2 w5 := hl3.trans hlw5
            have hM5 : Mem s m R P (Sj.set i (atI Sj i + 1)) (lj - 1) (.slice none 0 0) w5 := hM2.bump hA hiC hiL (fun k hk hne => hl25.block k hk hne) hl25.size hC5
            have hlx5 : LatP (fun k => k = s.rc ∨ k = s.G i) wr w5 := (hl2.wider (fun k e => .inl e)).trans (hl25.wider (fun k e => .inr e))
            have hmx : ∀ k, (k = s.rc ∨ k = s.G i) → s.mine k := fun k h => by
              rcases h with h | h
              · exact .inr (.inr (.inl h))
              · exact .inr (.inr (.inr (.inr (.inl ⟨i, hiC, h⟩))))
            have hI5 := HI.out _ _ _ _ _ hIj (hlx5.wider hmx)
            have hr5 : Row w5 (some a) b.length (ptrs s.G b) := hrj.kept hlx5.size (fun a' e => hlx5.block _ (by cases e; exact ha) (fun h => (HQ.out a' e).2.1 (hmx _ h)))
            have hk5 : ∃ cs, Blk w5 a.block 207 cs := by
              obtain ⟨cs, k⟩ := hgj.out a rfl
              exact ⟨cs, k.keepP hlx5 (fun h => (HQ.out a rfl).2.1 (hmx _ h))⟩
            have hg5 : ∀ k, g' = some k → k ≠ a.block := by
              intro k e h
              obtain ⟨cs, q1⟩ := hk5
              obtain ⟨cs', q2⟩ := (HG.out _ _ _ _ hI5 k e).2.2
              subst h
              unfold Blk at q1 q2
              rw [q1] at q2
              cases q2
            have hYi := hY Sj oj i g' w5 hiC hiL hI5 hC5 (by have := HLJ2.out; omega)
            have hszx := hlx5.size
            clear hMj hIj hM2 hrj hl2 hl3 hl25 hlx5 hlw5 hC5 k5 hmx hk2 hk3 hs2 hs3 HRT hRT HTL hlen'
            obtain ⟨fn, tmps, assign, body, hy', hR⟩ := hYi
            have hy : (Instr.yield l #[.pointer (some ⟨s.G i, 0, none⟩)]).run Tryz.prog w5 = .ok (.round l fn tmps assign body) w5 := hy'
            clear hy'
            go_upto_region 10 with (fail)
            refine (wpIn_wide (n := 3)).1 ?_
            gi_wp2
            refine hR.mono ?_
            clear hR hy
            rintro e w6 ⟨bb, rfl, hl6, htr, hfa⟩
            have hM6 := hM5.keep hl6 (fun k hk h => by
              rcases h with h | h
              · exact HTH.out k h hk
              · exact (HG.out _ _ _ _ hI5 k h.symm).1 hk)
            have haw : a.block < w5.heap.size := by omega
            have hr6 : Row w6 (some a) b.length (ptrs s.G b) := hr5.kept hl6.size (fun a' e => hl6.block _ (by cases e; exact haw) (fun h => by
              cases e
              rcases h with h | h
              · exact (HQ.out a rfl).1 h
              · exact hg5 _ h.symm rfl))
            have hk6 : ∃ cs, Blk w6 a.block 207 cs := by
              obtain ⟨cs, k⟩ := hk5
              exact ⟨cs, k.keepP hl6 (fun h => by
                rcases h with h | h
                · exact (HQ.out a rfl).1 h
                · exact hg5 _ h.symm rfl)⟩
            have hs6 := hl6.size
            have HS1 : Hid (bump S (b.take (j + 1)) = Sj.set i (atI Sj i + 1)) := HB
            have HO1 : Hid (o ++ b.take (j + 1) = oj ++ [i]) := by show _ = _; rw [HT.out, ← List.append_assoc, HOJ.out]
            cases bb with
            | true =>
              obtain ⟨g2, hI6⟩ := htr rfl
              have hsm := small_bump hSj hiL
              clear htr hfa hM5 hI5 hr5 hSj
              gi_wp2
              go_wp2
              go_round
              case rel =>
                refine ⟨j + 1, g2, by omega, by go_num, ?_, ?_, ?_, hr6, ?_, by omega⟩
                · rw [HS1.out, show left - ((j + 1 : Nat) : Int) = lj - 1 by have := HLJE.out; omega]; exact hM6
                · rw [HS1.out, HO1.out]; exact hI6
                · rw [HS1.out, show left - ((j + 1 : Nat) : Int) = lj - 1 by have := HLJE.out; omega]; exact hsm
                · intro a' e
                  cases e
                  exact hk6
              case measure => simp [intOf]; omega
            | false =>
              obtain ⟨hJ6, hlen6⟩ := hfa rfl
              have hjb : j + 1 = b.length := by have := HLJ2.out; have := HLJE.out; omega
              have hl1 : lj = 1 := by have := HLJ2.out; have := HLJE.out; omega
              have HTB : Hid (b.take (j + 1) = b) := by show _ = _; rw [hjb]; simp
              have hAe := HGs.out.done (by have := HLJE.out; omega)
              have HA1 : Hid (A.seats = Sj.set i (atI Sj i + 1)) := by show _ = _; rw [hAe, ← HS1.out, HTB.out]
              have HA2 : Hid (A.tied = []) := by show _ = _; rw [hAe]
              have HA3 : Hid (A.order = oj ++ [i]) := by show _ = _; rw [hAe, ← HO1.out, HTB.out]
              clear htr hfa hM5 hI5 hr5 hSj hAe hjb hl1
              gi_wp2
              go_wp2
              refine bodyPost_ret (results_none rfl _ _ _) rfl ?_
              refine ⟨⟨_, rfl⟩, .slice none 0 0, lj - 1, ?_, ?_, ?_, .inr ?_⟩
              · rw [HA1.out]; exact hM6
              · rw [HA2.out]; exact ⟨none, 0, rfl, Row.nil _ _⟩
              · intro h; exact absurd HA2.out h
              · rw [HA1.out, HA3.out]; exact hJ6
          · obtain rfl : j = b.length := by omega
            have HTB : Hid (b.take b.length = b) := List.take_length
            have HLJ := Lib.hid (leftOf_of hMj.rc)
            go_wp2
            go_roundw
            case rel =>
              rw [HTB.out] at hMj hIj hSj
              exact ⟨bump S b, left - b.length, o ++ b, g', hMj, hIj, HGs.out, by omega, by show _ = _; rw [List.length_append]; have := hlo.out; omega, hSj, by omega⟩
            case measure => rw [HLJ.out, HLW.out]; omega
    · have hAe := hG.done (by omega)
      have HA' := Lib.hid hAe
      clear hAe hG hW
      have hle : ¬ (0 : Int) < left := h0
      go_wp2
      refine bodyPost_ret (results_none rfl _ _ _) rfl ?_
      refine ⟨⟨_, rfl⟩, .slice none 0 0, left, ?_, ?_, ?_, .inl ⟨g, ?_⟩⟩
      · rw [HA'.out]; exact hM
      · rw [HA'.out]; exact ⟨none, 0, rfl, Row.nil _ _⟩
      · intro h; rw [HA'.out] at h; exact absurd rfl h
      · rw [HA'.out]; exact hI1
end Go.Proofs.YtkiaaefkobfkgaaGreat
