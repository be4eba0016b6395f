/- Several texts in one: RunR. -/
import Derived.Test.YtkjnjooggicgiaaJ29

/- Divisor: the loop over the iterator, in run. -/
namespace Go.Proofs.Ytkjnjooggicgiaa
open Go.RowKit Go.Shelf
set_option linter.unusedSimpArgs false

/-- A block whose first n cells are the numbers xs. -/
def RowN (W : World) (g n : Nat) (xs : List Int) : Prop := ∃ cur, Blk W g 3 cur ∧ cur.toList.take n = xs.map (Value.int .i64) ∧ xs.length = n ∧ n ≤ cur.size
theorem RowN.keepP {M : Nat → Prop} {W w : World} {g n : Nat} {xs : List Int} (h : RowN W g n xs) (hl : LatP M W w) (hg : ¬ M g) : RowN w g n xs := by
  obtain ⟨cur, h1, h2⟩ := h
  exact ⟨cur, h1.keepP hl hg, h2⟩
theorem RowN.cell {W : World} {g n : Nat} {xs : List Int} (h : RowN W g n xs) {i : Nat} {x : Int} (hx : xs[i]? = some x) : W.cell? ⟨g, i, none⟩ = some (.int .i64 x) := by
  obtain ⟨cur, h1, h2, h3, h4⟩ := h
  rw [h1.cell i]
  have hi : i < xs.length := (List.getElem?_eq_some_iff.1 hx).1
  have : (cur.toList.take n)[i]? = some (.int .i64 x) := by rw [h2]; simp [hx]
  rw [List.getElem?_take] at this
  split at this
  · simpa using this
  · cases this
theorem RowN.set {W : World} {g n : Nat} {xs : List Int} (h : RowN W g n xs) {i : Nat} (_hi : i < xs.length) (x : Int) : RowN (W.setCell ⟨g, i, none⟩ (.int .i64 x)) g n (xs.set i x) := by
  obtain ⟨cur, h1, h2, h3, h4⟩ := h
  refine ⟨_, h1.set i _, ?_, by simpa using h3, by simpa using h4⟩
  rw [Array.toList_setIfInBounds, List.take_set, h2, List.map_set]
theorem RowN.sl {W : World} {g n : Nat} {xs : List Int} (h : RowN W g n xs) : Sl W .i64 (some ⟨g, 0, none⟩) n xs := by
  obtain ⟨cur, h1, h2, h3, h4⟩ := h
  refine ⟨h3, fun _ => ⟨_, rfl, h1.lt, fun i x hx => ?_⟩⟩
  have e : (⟨g, 0, none⟩ : Addr).add i = ⟨g, i, none⟩ := by unfold Addr.add; split <;> simp_all
  rw [e]
  exact RowN.cell ⟨cur, h1, h2, h3, h4⟩ hx

/-- Numbers of regions as values. -/
def nats (o : List Nat) : List Value := o.map fun (i : Nat) => Value.int .i64 (i : Int)
theorem nats_snoc (o : List Nat) (i : Nat) : nats (o ++ [i]) = nats o ++ [.int .i64 (i : Int)] := by simp [nats]
theorem nats_length (o : List Nat) : (nats o).length = o.length := by simp [nats]
def ints (o : List Nat) : List Int := o.map fun (i : Nat) => (i : Int)
theorem Row.sl {w : World} {A : Option Addr} {n : Nat} {o : List Nat} (h : Row w A n (nats o)) : Sl w .i64 A n (ints o) := by
  refine ⟨by have := h.1; simpa [nats, ints] using this, fun hn => ?_⟩
  obtain ⟨a, e, hb, hc⟩ := h.2 hn
  refine ⟨a, e, hb, fun i x hx => hc i _ ?_⟩
  unfold ints at hx
  unfold nats
  rw [List.getElem?_map] at hx ⊢
  cases ho : o[i]? with
  | none => rw [ho] at hx; cases hx
  | some y => rw [ho] at hx; cases hx; rfl

/-- Where run keeps the award. -/
structure Desk where
  b5 : Nat
  b8 : Nat
  b9 : Nat
  sr : Nat
  cS : Nat
  n : Nat
structure DeskIs (d : Desk) (B : Nat) (seats : Int) (S : List Int) (ov : Value) (o : List Nat) (W : World) : Prop where
  b5 : Blk W d.b5 3 #[.int .i64 seats]
  b8 : Blk W d.b8 39 #[.slice (some ⟨d.sr, 0, none⟩) d.n d.cS, .slice none 0 0, .int .i64 0]
  b9 : Blk W d.b9 37 #[ov]
  row : RowN W d.sr d.n S
  own : OwnV W B 3 ov (nats o)
theorem OwnV.kept' {w w' : World} {B : Nat} {E : TypeId} {v : Value} {xs : List Value} {M : Nat → Prop} (h : OwnV w B E v xs) (hl : LatP M w w') (hM : ∀ g, v.ownBlock = some g → ¬ M g) : OwnV w' B E v xs := by
  refine h.kept (fun g hg => hl.block g ?_ (hM g hg))
  rcases h.2 with ⟨rfl, _⟩ | ⟨g', cap, cur, rfl, _, hh, _⟩
  · cases hg
  · cases hg
    rcases Nat.lt_or_ge g' w.heap.size with hlt | hge
    · exact hlt
    · rw [Array.getElem?_eq_none hge] at hh; cases hh
theorem OwnV.at {w : World} {B : Nat} {E : TypeId} {v : Value} {xs : List Value} (h : OwnV w B E v xs) : ∀ g, v.ownBlock = some g → B ≤ g ∧ g < w.heap.size ∧ ∃ cs, Blk w g E cs := by
  intro g hg
  rcases h.2 with ⟨rfl, _⟩ | ⟨g', cap, cur, rfl, hb, hh, _⟩
  · cases hg
  · cases hg
    have hB : Blk w g' E cur := hh
    exact ⟨hb, hB.lt, cur, hB⟩
theorem DeskIs.keepP {d : Desk} {B : Nat} {seats : Int} {S : List Int} {ov : Value} {o : List Nat} {W w : World} {M : Nat → Prop} (h : DeskIs d B seats S ov o W) (hl : LatP M W w)
    (h5 : ¬ M d.b5) (h8 : ¬ M d.b8) (h9 : ¬ M d.b9) (hr : ¬ M d.sr) (ho : ∀ g, ov.ownBlock = some g → ¬ M g) : DeskIs d B seats S ov o w :=
  ⟨h.b5.keepP hl h5, h.b8.keepP hl h8, h.b9.keepP hl h9, h.row.keepP hl hr, h.own.kept' hl ho⟩

theorem LatP.putObj {w : World} {l : Nat} {o : Obj} (_hl : l < w.heap.size) : LatP (· = l) w (w.putObj l o) := by
  refine ⟨rfl, rfl, rfl, by simp [World.putObj], fun k _ hk => ?_⟩
  simp only [World.putObj]
  rw [Array.getElem?_setIfInBounds_ne (fun h => hk h.symm)]
theorem putObj_self {w : World} {l : Nat} {o : Obj} (hl : l < w.heap.size) : (w.putObj l o).heap[l]? = some o := World.putObj_heap_same hl

theorem Row.loop {W : World} {A : Option Addr} {n l : Nat} {xs : List Value} {r : Loop} {o : Obj} (h : Row W A n xs) (hl : W.heap[l]? = some (.loop r)) : Row (W.putObj l o) A n xs := by
  refine ⟨h.1, fun hn => ?_⟩
  obtain ⟨a, e, hlt, hc⟩ := h.2 hn
  have hne : a.block ≠ l := by
    intro he
    have h0 := hc 0 _ (List.getElem?_eq_getElem (by have := h.1; omega))
    unfold World.cell? at h0
    rw [block_add, he, hl] at h0
    cases h0
  refine ⟨a, e, by simpa [World.putObj] using hlt, fun j x hx => ?_⟩
  rw [← hc j x hx]
  refine World.cell?_of_block ?_
  rw [block_add]
  exact World.putObj_heap_other hne

/-- What the body of the loop does in a round. -/
def BodyDoes (d : Desk) (B : Nat) (seats : Int) (body : Code) (a1 : Value → Act) : Prop :=
  ∀ (l : Nat) (S : List Int) (ov : Value) (o : List Nat) (i g : Nat) (cs : Array Value) (W : World) (Qb : Exit → Act → World → Prop), i < S.length → (o.length : Int) + 1 ≤ 1000 → DeskIs d B seats S ov o W →
    Blk W g 83 cs → cs[0]? = some (.int .i64 (i : Int)) → cs[2]? = some (.int .i64 (atI S i + 1)) → B ≤ W.heap.size → ¬ LetsOut Qb → (∀ c a' W', Qb (.panic c) a' W' → False) →
    (∀ (W' : World) (ov' : Value), DeskIs d B seats (S.set i (atI S i + 1)) ov' (o ++ [i]) W' → LatP (fun k => k = d.sr ∨ k = d.b9 ∨ some k = ov.ownBlock) W W' →
      (((o.length : Int) + 1 = seats → ∀ a', Qb (.exit 2) a' W') ∧ ((o.length : Int) + 1 ≠ seats → ∀ a', Qb .normal a' W'))) →
    body.wpIn (Fence.wide.inRound l) 2 Try.prog Qb (a1 (pt g)) W

set_option maxHeartbeats 2000000 in
theorem run_range {s : Site} {m : Int} {R : Int → Int → List Value → Prop} {f : Int → Int → Int → Int → Int} {P : List Int} {A : Aw} {d : Desk} {seats : Int} {ga : Operand} {ps : Array Tmp} {assign body : Code} {Q : Exit → Act → World → Prop} {a : Act} {w : World}
    (hW : RankWay m R f) (hA : s.Apart) (hC : s.C ≠ []) (hn : s.n ≤ 1000) (hP : ∀ i ∈ s.C, 1 ≤ atI P i ∧ atI P i ≤ 1000000000) (L0 : Int) (_hL0 : L0 ≤ seats) (hL1 : L0 ≤ 1000) (h0 : 0 ≤ L0)
    (hmine : ∀ k, s.mine k → k < w.heap.size) (h5 : ¬ s.mine d.b5) (h8 : ¬ s.mine d.b8) (h9 : ¬ s.mine d.b9) (hr : ¬ s.mine d.sr)
    (S0 : List Int) (hS0 : Small s.C S0 L0) (hM0 : Mem s m R P S0 L0 (.slice none 0 0) w) (hG0 : Goes f P s.C A S0 L0 []) (hD0 : DeskIs d w.heap.size seats S0 (.slice none 0 0) [] w)
    (hg : a.eval ga = .func (.func 52) #[] #[pt s.br, pt s.bt]) (hps : ps.size = 1) (a1 : Value → Act)
    (hassign : ∀ (l : Nat) (x : Value) (W : World) (K : Act → World → Prop), K (a1 x) W → assign.wpIn (Fence.wide.inRound l) 2 Try.prog (Exit.then K (fun _ _ _ => False)) { tmps := (ps.zip #[x]).foldl (fun tmps (t, a) => tmps.setIfInBounds t a) a.tmps, defers := [] } W)
    (hbody : BodyDoes d w.heap.size seats body a1)
    (hend : ∀ (x : Bool) (D : Nat) (W : World) (tv ov : Value) (lv : Int), w.heap.size ≤ D → W.heap[D]? = some (.deferred (some [])) → Mem s m R P A.seats lv tv W → TiedIs s.G A.tied tv W → (A.tied ≠ [] → lv = A.left) → DeskIs d w.heap.size seats A.seats ov A.order W →
      LatP (fun k => s.mine k ∨ k = d.sr ∨ k = d.b9) w W → Q (if x then .exit 2 else .normal) { a with defers := { target := .collected D, args := #[] } :: a.defers } W) :
    (Code.rangeFunc ga ps assign body).wp Try.prog Q a w := by
  refine rangeFunc_any (id := 2) hg (enters_of Try.func52 (by kernel_rfl) rfl) ?_
  intro fn W1 hW1
  generalize hrec : recOf a fn ps assign body w.heap.size = rec at hW1 ⊢
  have hl1 : Lat w W1 := by rw [hW1]; exact (Lat.alloc _ _).trans (Lat.alloc _ _)
  have hz1 : W1.heap.size = w.heap.size + 2 := by rw [hW1]; simp
  have hL1' : W1.heap[w.heap.size + 1]? = some (.loop (rec .ready none)) := by
    rw [hW1]; have := World.alloc_heap_new (w.alloc (.deferred (some []))) (.loop (rec .ready none)); rwa [World.size_alloc] at this
  have hK1 : W1.heap[w.heap.size]? = some (.deferred (some [])) := by
    rw [hW1]; exact (Below.heap_alloc _ _ _ (by simp)).trans (World.alloc_heap_new w _)
  clear hW1
  obtain ⟨M0, hM0e⟩ : ∃ M0 : Nat → Prop, M0 = fun k => s.mine k ∨ k = d.sr ∨ k = d.b9 := ⟨_, rfl⟩
  have hd5 := hD0.b5.lt
  have hd8 := hD0.b8.lt
  have hd9 := hD0.b9.lt
  have hdr : d.sr < w.heap.size := by obtain ⟨_, h, _⟩ := hD0.row; exact h.lt
  have hI0 : ∀ (x : LoopState → Option Code → Loop), True := fun _ => trivial
  clear hI0
  obtain ⟨I, hIe⟩ : ∃ I : List Int → List Nat → Option Nat → World → Prop, I = fun S o g W => ∃ ov : Value, g = ov.ownBlock ∧ W.heap[w.heap.size + 1]? = some (.loop (rec .ready none)) ∧ W.heap[w.heap.size]? = some (.deferred (some [])) ∧ DeskIs d w.heap.size seats S ov o W ∧ LatP M0 w W := ⟨_, rfl⟩
  obtain ⟨J, hJe⟩ : ∃ J : List Int → List Nat → World → Prop, J = fun S o W => ∃ ov : Value, W.heap[w.heap.size + 1]? = some (.loop (rec .done (some (.exit 2)))) ∧ W.heap[w.heap.size]? = some (.deferred (some [])) ∧ DeskIs d w.heap.size seats S ov o W ∧ LatP M0 w W := ⟨_, rfl⟩
  have hlt_of : ∀ {W : World} {k : Nat} {o : Obj}, W.heap[k]? = some o → k < W.heap.size := fun h => (Array.getElem?_eq_some_iff.1 h).1
  have hIstab : ∀ S o g W W', I S o g W → LatP s.mine W W' → I S o g W' := by
    intro S o g W W' h hl
    rw [hIe] at h ⊢
    obtain ⟨ov, e, q1, q2, q3, q4⟩ := h
    refine ⟨ov, e, (hl.block _ (hlt_of q1) (fun h => by have := hmine _ h; omega)).trans q1, (hl.block _ (hlt_of q2) (fun h => by have := hmine _ h; omega)).trans q2, q3.keepP hl h5 h8 h9 hr (fun k hk h => by have := hmine _ h; have := (q3.own.at k hk).1; omega), q4.trans (hl.wider (fun k h => by rw [hM0e]; exact .inl h))⟩
  have hIg : ∀ S o g W, I S o g W → ∀ k, g = some k → ¬ s.mine k ∧ k < W.heap.size ∧ ∃ cs, Blk W k 3 cs := by
    intro S o g W h k hk
    rw [hIe] at h
    obtain ⟨ov, e, q1, q2, q3, q4⟩ := h
    rw [e] at hk
    obtain ⟨p1, p2, p3⟩ := q3.own.at k hk
    exact ⟨fun h => by have := hmine _ h; omega, p2, p3⟩
  have hY : Yields s R P L0 (w.heap.size + 1) (fun k => k = d.sr ∨ k = d.b9 ∨ k = w.heap.size + 1) I J := by
    intro S o i g W hiC hiL hI hCl hlen
    rw [hIe] at hI
    obtain ⟨ov, e, q1, q2, q3, q4⟩ := hI
    have hlt1 := hlt_of q1
    have q1' := q1
    rw [← hrec] at q1
    have hGi : s.G i < w.heap.size := hmine _ (.inr (.inr (.inr (.inr (.inl ⟨i, hiC, rfl⟩)))))
    have hown : ∀ k, ov.ownBlock = some k → k ≠ w.heap.size + 1 ∧ w.heap.size ≤ k := by
      intro k hk
      obtain ⟨p1, p2, cs, p3⟩ := q3.own.at k hk
      refine ⟨fun h => ?_, p1⟩
      subst h
      unfold Blk at p3
      rw [q1'] at p3
      cases p3
    refine round_any (id := 2) (R := fun b W' => LatP (fun k => (k = d.sr ∨ k = d.b9 ∨ k = w.heap.size + 1) ∨ some k = g) W W' ∧ (b = true → ∃ g', I (S.set i (atI S i + 1)) (o ++ [i]) g' W') ∧ (b = false → J (S.set i (atI S i + 1)) (o ++ [i]) W' ∧ L0 ≤ (o.length : Int) + 1)) q1 (by simp [hps]) ?_
    refine hassign _ _ _ _ ⟨q1, ?_⟩
    rw [hrec]
    obtain ⟨T, hRT, kB⟩ := hCl
    have hp1 := LatP.putObj (w := W) (o := .loop (rec .busy none)) hlt1
    have hb1 := putObj_self (w := W) (o := .loop (rec .busy none)) hlt1
    obtain ⟨Wb, hWb⟩ : ∃ Wb, W.putObj (w.heap.size + 1) (.loop (rec .busy none)) = Wb := ⟨_, rfl⟩
    rw [hWb] at hp1 hb1 ⊢
    clear hWb
    have hDb : DeskIs d w.heap.size seats S ov o Wb := q3.keepP hp1 (by omega) (by omega) (by omega) (by omega) (fun k hk => (hown k hk).1)
    refine hbody _ S ov o i (s.G i) _ Wb _ hiL (by omega) hDb (kB.keepP hp1 (by omega)) (by simp) (by simp) (by have := hp1.size; omega) (fun ⟨_, _, h⟩ => h) (fun _ _ _ h => h) ?_
    intro W' ov' hD' hl'
    have hbusy : W'.heap[w.heap.size + 1]? = some (.loop (rec .busy none)) := (hl'.block _ (hlt_of hb1) (fun h => by
      rcases h with h | h | h
      · omega
      · omega
      · exact (hown _ h.symm).1 rfl)).trans hb1
    have hWW : LatP (fun k => (k = d.sr ∨ k = d.b9 ∨ k = w.heap.size + 1) ∨ some k = g) W W' := by
      refine (hp1.wider (fun k h => .inl (.inr (.inr h)))).trans (hl'.wider (fun k h => ?_))
      rcases h with h | h | h
      · exact .inl (.inl h)
      · exact .inl (.inr (.inl h))
      · exact .inr (by rw [e]; exact h)
    have hfin : ∀ x : Loop, LatP (fun k => (k = d.sr ∨ k = d.b9 ∨ k = w.heap.size + 1) ∨ some k = g) W (W'.putObj (w.heap.size + 1) (.loop x)) ∧
        (W'.putObj (w.heap.size + 1) (.loop x)).heap[w.heap.size + 1]? = some (.loop x) ∧ (W'.putObj (w.heap.size + 1) (.loop x)).heap[w.heap.size]? = some (.deferred (some [])) ∧
        DeskIs d w.heap.size seats (S.set i (atI S i + 1)) ov' (o ++ [i]) (W'.putObj (w.heap.size + 1) (.loop x)) ∧ LatP M0 w (W'.putObj (w.heap.size + 1) (.loop x)) := by
      intro x
      have hp2 := LatP.putObj (w := W') (o := .loop x) (hlt_of hbusy)
      have hWx := hWW.trans (hp2.wider (fun k h => .inl (.inr (.inr h))))
      have hov' : ∀ k, ov'.ownBlock = some k → k ≠ w.heap.size + 1 := by
        intro k hk h
        obtain ⟨p1, p2, cs, p3⟩ := hD'.own.at k hk
        subst h
        unfold Blk at p3
        rw [hbusy] at p3
        cases p3
      refine ⟨hWx, putObj_self (hlt_of hbusy), (hWx.block _ (hlt_of q2) (fun h => ?_)).trans q2, hD'.keepP hp2 (by omega) (by omega) (by omega) (by omega) (fun k hk => hov' k hk), ?_⟩
      · rcases h with (h | h | h) | h
        · omega
        · omega
        · omega
        · rw [e] at h
          obtain ⟨p1, p2, cs, p3⟩ := q3.own.at _ h.symm
          unfold Blk at p3
          rw [q2] at p3
          cases p3
      · refine ⟨hWx.os.trans q4.os, hWx.tape.trans q4.tape, hWx.output.trans q4.output, Nat.le_trans q4.size hWx.size, fun k hk hm => (hWx.block k (Nat.lt_of_lt_of_le hk q4.size) (fun h => ?_)).trans (q4.block k hk hm)⟩
        rw [hM0e] at hm
        rcases h with (h | h | h) | h
        · exact hm (.inr (.inl h))
        · exact hm (.inr (.inr h))
        · omega
        · rw [e] at h; have := (hown _ h.symm).2; omega
    refine ⟨fun hs a' => ?_, fun hs a' => ?_⟩
    · obtain ⟨r1, r2, r3, r4, r5⟩ := hfin (rec .done (some (.exit 2)))
      refine ⟨rfl, hbusy, r1, (fun h => by cases h), fun _ => ⟨?_, by omega⟩⟩
      rw [hJe]
      exact ⟨ov', r2, r3, r4, r5⟩
    · obtain ⟨r1, r2, r3, r4, r5⟩ := hfin (rec .ready none)
      refine ⟨hbusy, r1, (fun _ => ?_), fun h => by cases h⟩
      rw [hIe]
      exact ⟨_, ov', rfl, r2, r3, r4, r5⟩
  have hI1 : I S0 [] (Value.slice none 0 0).ownBlock W1 := by
    rw [hIe]
    exact ⟨_, rfl, hL1', hK1, hD0.keepP (hl1.p (fun _ => False)) (fun h => h) (fun h => h) (fun h => h) (fun h => h) (fun _ _ h => h), hl1.p _⟩
  refine (seats_iter hW hA hC hn hP L0 hL1 (w.heap.size + 1) (fun k => k = d.sr ∨ k = d.b9 ∨ k = w.heap.size + 1) I J hIstab hIg ?_ hY S0 W1 ?_ hS0 (hM0.later hl1) hG0 _ hI1 h0).mono ?_
  · intro k h hm
    rcases h with rfl | rfl | rfl
    · exact hr hm
    · exact h9 hm
    · have := hmine _ hm; omega
  · intro k h
    rcases h with rfl | rfl | rfl <;> omega
  · rintro e W2 ⟨⟨v, rfl⟩, tv, lv, hM, ⟨At, ct, htv, hrow⟩, hlv, h⟩
    have hmk : ∀ k, s.mine k → ¬ k = w.heap.size + 1 := fun k h => by have := hmine k h; omega
    rcases h with ⟨g, hI⟩ | hJ
    · rw [hIe] at hI
      obtain ⟨ov, e, q1, q2, q3, q4⟩ := hI
      have hp := LatP.putObj (w := W2) (o := .loop (rec .exhausted none)) (hlt_of q1)
      refine ⟨v, rfl, .inl ⟨q1, ?_⟩⟩
      refine hend false w.heap.size _ tv ov lv (Nat.le_refl _) ((hp.block _ (hlt_of q2) (by omega)).trans q2) (hM.keep hp hmk) ⟨At, ct, htv, hrow.loop q1⟩ hlv (q3.keepP hp (by omega) (by omega) (by omega) (by omega) (fun k hk h => ?_)) ?_
      · obtain ⟨p1, p2, cs, p3⟩ := q3.own.at k hk
        subst h
        unfold Blk at p3
        rw [q1] at p3
        cases p3
      · rw [hM0e] at q4
        exact ⟨hp.os.trans q4.os, hp.tape.trans q4.tape, hp.output.trans q4.output, Nat.le_trans q4.size hp.size, fun k hk hm => (hp.block k (Nat.lt_of_lt_of_le hk q4.size) (by omega)).trans (q4.block k hk hm)⟩
    · rw [hJe] at hJ
      obtain ⟨ov, q1, q2, q3, q4⟩ := hJ
      have hp := LatP.putObj (w := W2) (o := .loop (rec .exhausted (some (.exit 2)))) (hlt_of q1)
      refine ⟨v, rfl, .inr ⟨q1, ?_⟩⟩
      refine hend true w.heap.size _ tv ov lv (Nat.le_refl _) ((hp.block _ (hlt_of q2) (by omega)).trans q2) (hM.keep hp hmk) ⟨At, ct, htv, hrow.loop q1⟩ hlv (q3.keepP hp (by omega) (by omega) (by omega) (by omega) (fun k hk h => ?_)) ?_
      · obtain ⟨p1, p2, cs, p3⟩ := q3.own.at k hk
        subst h
        unfold Blk at p3
        rw [q1] at p3
        cases p3
      · rw [hM0e] at q4
        exact ⟨hp.os.trans q4.os, hp.tape.trans q4.tape, hp.output.trans q4.output, Nat.le_trans q4.size hp.size, fun k hk hm => (hp.block k (Nat.lt_of_lt_of_le hk q4.size) (by omega)).trans (q4.block k hk hm)⟩
end Go.Proofs.Ytkjnjooggicgiaa
