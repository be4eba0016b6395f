/- Several texts in one: Math, Base. -/
import Derived.WalkKit
import Derived.WalkSpells
import Derived.WalkLawsBesides
import Derived.Lib.Hide
namespace Go.Proofs.YtpmbglhbcjbkcaaGreat
def val (B : Int) : List Int → Int
 | [] => 0
 | x :: r => x + B * val B r
def InR (B : Int) (xs : List Int) : Prop := ∀ x ∈ xs, 0 ≤ x ∧ x < B
def Nz (xs : List Int) : Prop := xs.getLast? ≠ some 0
theorem zdR (B : Int) : val B [] = 0 := rfl
theorem zfw (B x : Int) (r : List Int) : val B (x :: r) = x + B * val B r := rfl
theorem InR.nil (B : Int) : InR B [] := fun _ h => absurd h (by simp)
theorem InR.cons {B x : Int} {r : List Int} (h : 0 ≤ x ∧ x < B) (hr : InR B r) : InR B (x :: r) := by
 intro y hy
 rcases List.mem_cons.1 hy with rfl | hy
 ·exact h
 ·exact hr y hy
theorem InR.head {B x : Int} {r : List Int} (h : InR B (x :: r)) : 0 ≤ x ∧ x < B := h x (by simp)
theorem InR.tail {B x : Int} {r : List Int} (h : InR B (x :: r)) : InR B r := fun y hy => h y (by simp [hy])
theorem InR.append {B : Int} {xs ys : List Int} (h : InR B xs) (k : InR B ys) : InR B (xs ++ ys) := by
 intro y hy
 rcases List.mem_append.1 hy with hy | hy
 ·exact h y hy
 ·exact k y hy
theorem InR.take {B : Int} {xs : List Int} (h : InR B xs) (k : Nat) : InR B (xs.take k) := fun y hy => h y (List.mem_of_mem_take hy)
theorem InR.drop {B : Int} {xs : List Int} (h : InR B xs) (k : Nat) : InR B (xs.drop k) := fun y hy => h y (List.mem_of_mem_drop hy)
theorem InR.at {B : Int} {xs : List Int} (h : InR B xs) {k : Nat} {x : Int} (hx : xs[k]? = some x) : 0 ≤ x ∧ x < B := h x (List.mem_of_getElem? hx)
theorem InR.getD {B : Int} {xs : List Int} (h : InR B xs) (hB : 0 < B) (k : Nat) : 0 ≤ xs.getD k 0 ∧ xs.getD k 0 < B := by
 rw [List.getD_eq_getElem?_getD]
 cases hx : xs[k]? with
 | none => simpa using hB
 | some x => simpa using h.at hx
theorem InR.set {B : Int} {xs : List Int} (h : InR B xs) (k : Nat) {x : Int} (hx : 0 ≤ x ∧ x < B) : InR B (xs.set k x) := by
 intro y hy
 rcases List.mem_or_eq_of_mem_set hy with hy | rfl
 ·exact h y hy
 ·exact hx
theorem InR.zeros {B : Int} (hB : 0 < B) (n : Nat) : InR B (List.replicate n 0) := by
 intro y hy
 rw [List.eq_of_mem_replicate hy]
 omega
theorem zce {B : Int} (hB : 0 < B) (k : Nat) : 0 < B ^ k := Int.pow_pos hB
theorem za8 (B : Int) (k : Nat) : B ^ (k + 1) = B ^ k * B := Int.pow_succ ..
theorem zeY (B : Int) (i j : Nat) : B ^ (i + j) = B ^ i * B ^ j := Int.pow_add ..
theorem val_append (B : Int) (xs ys : List Int) : val B (xs ++ ys) = val B xs + B ^ xs.length * val B ys := by
 induction xs with
 | nil => simp [val]
 | cons x r ih => simp only [List.cons_append, val, ih, List.length_cons, za8]; grind
theorem zcU (B : Int) (xs : List Int) (x : Int) : val B (xs ++ [x]) = val B xs + B ^ xs.length * x := by
 rw [val_append]; simp [val]
theorem zbd (B : Int) (n : Nat) : val B (List.replicate n 0) = 0 := by
 induction n with
 | zero => rfl
 | succ n ih => rw [List.replicate_succ, val, ih]; simp
theorem zaj {B : Int} (hB : 0 < B) {xs : List Int} (h : InR B xs) : 0 ≤ val B xs := by
 induction xs with
 | nil => exact Int.le_refl 0
 | cons x r ih =>
   have h1 := h.head
   have h2 := Int.mul_nonneg (Int.le_of_lt hB) (ih h.tail)
   rw [val]; omega
theorem zcV {B : Int} (hB : 0 < B) {xs : List Int} (h : InR B xs) : val B xs < B ^ xs.length := by
 induction xs with
 | nil => simp [val]
 | cons x r ih =>
   have h1 := h.head
   have h2 := ih h.tail
   have h3 : B * (val B r + 1) ≤ B * B ^ r.length := Int.mul_le_mul_of_nonneg_left (by omega) (by omega)
   rw [val, List.length_cons, za8, Int.mul_comm (B ^ r.length) B]
   rw [Int.mul_add] at h3
   omega
theorem zai (B : Int) (xs : List Int) (k : Nat) : val B (xs.take (k + 1)) = val B (xs.take k) + B ^ k * xs.getD k 0 := by
 rw [List.getD_eq_getElem?_getD]
 rcases Nat.lt_or_ge k xs.length with h | h
 ·rw [List.take_succ_eq_append_getElem h, zcU, List.length_take, Nat.min_eq_left (Nat.le_of_lt h), List.getElem?_eq_getElem h]; rfl
 ·rw [List.take_of_length_le (by omega), List.take_of_length_le (by omega), List.getElem?_eq_none h]; simp
theorem zcW (B : Int) (xs : List Int) (k : Nat) (h : k ≤ xs.length) : val B xs = val B (xs.take k) + B ^ k * val B (xs.drop k) := by
 conv => lhs; rw [← List.take_append_drop k xs, val_append, List.length_take, Nat.min_eq_left h]
theorem zbD (B : Int) (xs : List Int) (k : Nat) (x : Int) (h : k < xs.length) : val B (xs.set k x) = val B xs + B ^ k * (x - xs.getD k 0) := by
 induction xs generalizing k with
 | nil => simp at h
 | cons y r ih =>
   cases k with
   | zero => simp [val]; omega
   | succ k =>
     simp only [List.set_cons_succ, val, ih k (by simpa using h), za8, List.getD_cons_succ]
     grind
theorem Nz.nil : Nz [] := by simp [Nz]
theorem zeZ {B : Int} (hB : 0 < B) {xs : List Int} (h : InR B xs) (hz : Nz xs) (hne : xs ≠ []) : B ^ (xs.length - 1) ≤ val B xs := by
 obtain ⟨r, x, rfl⟩ : ∃ r x, xs = r ++ [x] := ⟨xs.dropLast, xs.getLast hne, (List.dropLast_concat_getLast hne).symm⟩
 have hx := h x (by simp)
 have hx0 : x ≠ 0 := by
  intro e
  apply hz
  simp [e]
 have hr : InR B r := fun y hy => h y (by simp [hy])
 have := zaj hB hr
 rw [zcU]
 simp only [List.length_append, List.length_cons, List.length_nil, Nat.zero_add, Nat.add_sub_cancel]
 have h1 : B ^ r.length * 1 ≤ B ^ r.length * x := Int.mul_le_mul_of_nonneg_left (by omega) (Int.le_of_lt (zce hB _))
 omega
theorem zaX {B : Int} (hB : 0 < B) {xs : List Int} (h : InR B xs) (hz : Nz xs) (hne : xs ≠ []) : 0 < val B xs :=
 Int.lt_of_lt_of_le (zce hB _) (zeZ hB h hz hne)
theorem zdS {B : Int} (hB : 0 < B) {i j : Nat} (h : i ≤ j) : B ^ i ≤ B ^ j := by
 obtain ⟨d, rfl⟩ := Nat.exists_eq_add_of_le h
 rw [zeY]
 have h1 := zce hB i
 have h2 := zce hB d
 have := Int.mul_le_mul_of_nonneg_left (show (1 : Int) ≤ B ^ d by omega) (Int.le_of_lt h1)
 omega
theorem znd {B : Int} (hB : 1 < B) {i j : Nat} (h : i < j) : B ^ i < B ^ j := by
 have h1 : B ^ (i + 1) ≤ B ^ j := zdS (by omega) h
 have h2 := zce (show 0 < B by omega) i
 have := Int.mul_lt_mul_of_pos_left hB h2
 rw [za8] at h1
 omega
theorem zaz {B : Int} (hB : 0 < B) {xs ys : List Int} (hx : InR B xs) (hy : InR B ys) (hz : Nz ys) (h : xs.length < ys.length) : val B xs < val B ys := by
 have h1 := zcV hB hx
 have h2 := zeZ hB hy hz (by intro e; simp [e] at h)
 have h3 : B ^ xs.length ≤ B ^ (ys.length - 1) := zdS hB (by omega)
 omega
theorem zaO {B : Int} (hB : 0 < B) {xs ys : List Int} (hx : InR B xs) (hy : InR B ys) {k : Nat} {x y : Int} (h1 : xs[k]? = some x) (h2 : ys[k]? = some y)
  (hd : xs.drop (k + 1) = ys.drop (k + 1)) (h : x < y) : val B xs < val B ys := by
 have lx : k < xs.length := (List.getElem?_eq_some_iff.1 h1).1
 have ly : k < ys.length := (List.getElem?_eq_some_iff.1 h2).1
 rw [zcW B xs (k + 1) (by omega), zcW B ys (k + 1) (by omega), hd, zai, zai]
 have a := zcV hB (hx.take k)
 have b := zaj hB (hy.take k)
 rw [List.length_take, Nat.min_eq_left (by omega)] at a
 have e1 : xs.getD k 0 = x := by rw [List.getD_eq_getElem?_getD, h1]; rfl
 have e2 : ys.getD k 0 = y := by rw [List.getD_eq_getElem?_getD, h2]; rfl
 rw [e1, e2]
 have h3 := Int.mul_le_mul_of_nonneg_left (show x + 1 ≤ y by omega) (Int.le_of_lt (zce hB k))
 rw [Int.mul_add] at h3
 omega
def zbg (xs : List Int) : Nat → Nat
 | 0 => 0
 | k + 1 => if xs[k]? = some 0 then zbg xs k else k + 1
theorem zhS (xs : List Int) (k : Nat) : zbg xs k ≤ k := by
 induction k with
 | zero => exact Nat.le_refl 0
 | succ k ih => rw [zbg]; split <;> omega
theorem ze0 (xs : List Int) (k : Nat) (h : xs[k]? = some 0) : zbg xs (k + 1) = zbg xs k := by rw [zbg, if_pos h]
theorem ze1 (xs : List Int) (k : Nat) (h : xs[k]? ≠ some 0) : zbg xs (k + 1) = k + 1 := by rw [zbg, if_neg h]
theorem zgl (B : Int) (xs : List Int) (k : Nat) : val B (xs.take (zbg xs k)) = val B (xs.take k) := by
 induction k with
 | zero => rfl
 | succ k ih =>
   rw [zbg]
   split
   ·rename_i h
    rw [ih, zai, List.getD_eq_getElem?_getD, h]; simp
   ·rfl
theorem zhT (xs : List Int) (k : Nat) (hk : k ≤ xs.length) : Nz (xs.take (zbg xs k)) := by
 induction k with
 | zero => simp [zbg, Nz]
 | succ k ih =>
   rw [zbg]
   split
   ·exact ih (by omega)
   ·rename_i h
    unfold Nz
    rw [List.getLast?_eq_getElem?, List.length_take, Nat.min_eq_left hk, Nat.add_sub_cancel, List.getElem?_take, if_pos (by omega)]
    exact h
theorem zaM {B : Int} (hB : 0 < B) {xs ys : List Int} (hx : InR B xs) (hy : InR B ys) (zx : Nz xs) (h : val B xs ≤ val B ys) : xs.length ≤ ys.length := by
 rcases Nat.lt_or_ge ys.length xs.length with hlt | hge
 ·have := zaz hB hy hx zx hlt
  omega
 ·exact hge
open Go.RowKit
def Lat (W w : World) : Prop := Below W.heap.size W w
theorem Lat.refl (w : World) : Lat w w := Below.refl _ _
theorem Lat.trans {a b c : World} (h : Lat a b) (k : Lat b c) : Lat a c := Below.trans h (Below.mono k h.size)
theorem Lat.drew (w : World) : Lat w w.drew := ⟨rfl, rfl, rfl, Nat.le_refl _, fun _ _ => rfl⟩
theorem Lat.drewN (w : World) (n : Nat) : Lat w (w.drewN n) := ⟨rfl, rfl, rfl, Nat.le_refl _, fun _ _ => rfl⟩
theorem Lat.alloc (w : World) (o : Obj) : Lat w (w.alloc o) := (Below.refl _ _).alloc (Nat.le_refl _) o
theorem Lat.cell {W w : World} (h : Lat W w) {p : Addr} {v : Value} (hp : p.block < W.heap.size) (hc : W.cell? p = some v) : w.cell? p = some v := (Below.cell h hp).trans hc
theorem Lat.size {W w : World} (h : Lat W w) : W.heap.size ≤ w.heap.size := Below.size h
theorem Lat.setCell {w0 w : World} (h : Lat w0 w) {p : Addr} (hp : w0.heap.size ≤ p.block) (u : Value) : Lat w0 (w.setCell p u) := Below.setCell h hp u
def Blk (w : World) (g : Nat) (t : TypeId) (cs : Array Value) : Prop := w.heap[g]? = some (.cells cs t (0, 0))
section
variable {w W : World} {g : Nat} {t : TypeId} {cs : Array Value}
theorem Blk.lt (h : Blk w g t cs) : g < w.heap.size := by
 rcases Nat.lt_or_ge g w.heap.size with hlt | hge
 ·exact hlt
 ·unfold Blk at h; rw [Array.getElem?_eq_none hge] at h; cases h
theorem Blk.later (h : Blk W g t cs) (hl : Lat W w) : Blk w g t cs := (Below.block hl g h.lt).trans h
theorem Blk.cell (h : Blk w g t cs) (i : Nat) : w.cell? ⟨g, i, none⟩ = cs[i]? := cell_of_row w g i cs t (0, 0) h
theorem Blk.frozen (h : Blk w g t cs) (i : Nat) : w.frozen? ⟨g, i, none⟩ = false := by
 unfold Blk at h
 simp [World.frozen?, h]
theorem Blk.ever (h : Blk W g t cs) (i : Nat) {v : Value} (hi : cs[i]? = some v) : ∀ w, Lat W w → w.cell? ⟨g, i, none⟩ = some v :=
 fun _ hl => ((h.later hl).cell i).trans hi
theorem Blk.free (h : Blk W g t cs) (i : Nat) : ∀ w, Lat W w → w.frozen? ⟨g, i, none⟩ = false := fun _ hl => (h.later hl).frozen i
theorem Blk.new (w : World) (t : TypeId) (cs : Array Value) : Blk (w.alloc (.cells cs t)) w.heap.size t cs := heap_alloc_new w _
theorem Blk.alloc (h : Blk w g t cs) (o : Obj) : Blk (w.alloc o) g t cs := (Below.heap_alloc w o g h.lt).trans h
theorem Blk.set (h : Blk w g t cs) (i : Nat) (u : Value) : Blk (w.setCell ⟨g, i, none⟩ u) g t (cs.setIfInBounds i u) := by
 unfold Blk at h ⊢
 simp [World.setCell, Array.getElem?_modify, h]
theorem Blk.far (h : Blk w g t cs) {p : Addr} (hp : g ≠ p.block) (u : Value) : Blk (w.setCell p u) g t cs := (Below.heap_setCell w p u g hp).trans h
end
theorem zas {w : World} {t1 : TypeId} {c1 : Array Value} {Q : World → Prop} (h : ∀ W, Lat w W → w.heap.size < W.heap.size → Blk W w.heap.size t1 c1 → Q W) : Q (w.alloc (.cells c1 t1)) :=
 h _ (Lat.alloc _ _) (by simp) (Blk.new _ _ _)
theorem zaK {w : World} {t1 t2 : TypeId} {c1 c2 : Array Value} {Q : World → Prop}
  (h : ∀ W, Lat w W → w.heap.size + 1 < W.heap.size → Blk W w.heap.size t1 c1 → Blk W (w.heap.size + 1) t2 c2 → Q W) : Q ((w.alloc (.cells c1 t1)).alloc (.cells c2 t2)) :=
 h _ ((Lat.alloc _ _).trans (Lat.alloc _ _)) (by simp) ((Blk.new _ _ _).alloc _) (by have := Blk.new (w.alloc (.cells c1 t1)) t2 c2; simpa using this)
theorem za0 {w : World} {t1 t2 t3 : TypeId} {c1 c2 c3 : Array Value} {Q : World → Prop}
  (h : ∀ W, Lat w W → w.heap.size + 2 < W.heap.size → Blk W w.heap.size t1 c1 → Blk W (w.heap.size + 1) t2 c2 → Blk W (w.heap.size + 1 + 1) t3 c3 → Q W) :
  Q (((w.alloc (.cells c1 t1)).alloc (.cells c2 t2)).alloc (.cells c3 t3)) :=
 h _ (((Lat.alloc _ _).trans (Lat.alloc _ _)).trans (Lat.alloc _ _)) (by simp) (((Blk.new _ _ _).alloc _).alloc _)
  (by have := (Blk.new (w.alloc (.cells c1 t1)) t2 c2).alloc (.cells c3 t3); simpa using this)
  (by have := Blk.new ((w.alloc (.cells c1 t1)).alloc (.cells c2 t2)) t3 c3; simpa using this)
theorem zne {w : World} {t1 t2 t3 t4 : TypeId} {c1 c2 c3 c4 : Array Value} {Q : World → Prop}
  (h : ∀ W, Lat w W → w.heap.size + 3 < W.heap.size → Blk W w.heap.size t1 c1 → Blk W (w.heap.size + 1) t2 c2 → Blk W (w.heap.size + 1 + 1) t3 c3 → Blk W (w.heap.size + 1 + 1 + 1) t4 c4 → Q W) :
  Q ((((w.alloc (.cells c1 t1)).alloc (.cells c2 t2)).alloc (.cells c3 t3)).alloc (.cells c4 t4)) :=
 h _ ((((Lat.alloc _ _).trans (Lat.alloc _ _)).trans (Lat.alloc _ _)).trans (Lat.alloc _ _)) (by simp) ((((Blk.new _ _ _).alloc _).alloc _).alloc _)
  (by have := ((Blk.new (w.alloc (.cells c1 t1)) t2 c2).alloc (.cells c3 t3)).alloc (.cells c4 t4); simpa using this)
  (by have := (Blk.new ((w.alloc (.cells c1 t1)).alloc (.cells c2 t2)) t3 c3).alloc (.cells c4 t4); simpa using this)
  (by have := Blk.new (((w.alloc (.cells c1 t1)).alloc (.cells c2 t2)).alloc (.cells c3 t3)) t4 c4; simpa using this)
def Sl (w : World) (k : IntKind) (A : Option Addr) (n : Nat) (xs : List Int) : Prop :=
 xs.length = n ∧ (0 < n → ∃ a, A = some a ∧ a.block < w.heap.size ∧ ∀ i x, xs[i]? = some x → w.cell? (a.add i) = some (.int k x))
theorem block_add (a : Addr) (n : Nat) : (a.add n).block = a.block := by unfold Addr.add; split <;> rfl
section
variable {w W : World} {k : IntKind} {A : Option Addr} {n : Nat} {xs : List Int}
theorem Sl.later (h : Sl W k A n xs) (hl : Lat W w) : Sl w k A n xs :=
 ⟨h.1, fun hn => by
  obtain ⟨a, e, hb, hc⟩ := h.2 hn
  exact ⟨a, e, Nat.lt_of_lt_of_le hb hl.size, fun i x hx => hl.cell (by rw [block_add]; exact hb) (hc i x hx)⟩⟩
theorem Sl.nil (w : World) (k : IntKind) (A : Option Addr) : Sl w k A 0 [] := ⟨rfl, fun h => absurd h (by omega)⟩
theorem Sl.at (h : Sl w k A n xs) {i : Nat} (hi : i < n) : ∃ a x, A = some a ∧ a.block < w.heap.size ∧ xs[i]? = some x ∧ w.cell? (a.add i) = some (.int k x) := by
 obtain ⟨a, e, hb, hc⟩ := h.2 (by omega)
 have hl : i < xs.length := by have := h.1; omega
 exact ⟨a, xs[i], e, hb, List.getElem?_eq_getElem hl, hc i _ (List.getElem?_eq_getElem hl)⟩
theorem Sl.take (h : Sl w k A n xs) {m : Nat} (hm : m ≤ n) : Sl w k A m (xs.take m) := by
 refine ⟨by rw [List.length_take, h.1]; omega, fun hp => ?_⟩
 obtain ⟨a, e, hb, hc⟩ := h.2 (by omega)
 refine ⟨a, e, hb, fun i x hx => hc i x ?_⟩
 rw [List.getElem?_take] at hx
 split at hx
 ·exact hx
 ·cases hx
end
def nums (k : IntKind) (xs : List Int) : Array Value := (xs.map (Value.int k)).toArray
theorem zlH (k : IntKind) (xs : List Int) (i : Nat) : (nums k xs)[i]? = (xs[i]?).map (Value.int k) := by simp [nums]
theorem zbO {k : IntKind} {xs : List Int} {i : Nat} {x : Int} (h : xs[i]? = some x) : (nums k xs)[i]? = some (.int k x) := by rw [zlH, h]; rfl
theorem zfx (k : IntKind) (xs : List Int) (i : Nat) (x : Int) : (nums k xs).setIfInBounds i (.int k x) = nums k (xs.set i x) := by
 simp [nums, List.map_set]
theorem zjT (k : IntKind) (n : Nat) : madeCells #[.int k 0] n = nums k (List.replicate n 0) := by
 have h := toList_madeCells_one (.int k 0) n
 apply Array.toList_inj.1
 rw [h]
 simp [nums]
theorem Blk.slot {w : World} {g : Nat} {t : TypeId} {k : IntKind} {xs : List Int} (h : Blk w g t (nums k xs)) {i : Nat} (hi : i < xs.length) :
  ∃ x, xs[i]? = some x ∧ w.cell? ⟨g, i, none⟩ = some (.int k x) ∧ w.frozen? ⟨g, i, none⟩ = false :=
 ⟨xs[i], List.getElem?_eq_getElem hi, (h.cell i).trans (zbO (List.getElem?_eq_getElem hi)), h.frozen i⟩
theorem Blk.put {w : World} {g : Nat} {t : TypeId} {k : IntKind} {xs : List Int} (h : Blk w g t (nums k xs)) (i : Nat) (x : Int) : Blk (w.setCell ⟨g, i, none⟩ (.int k x)) g t (nums k (xs.set i x)) := by
 have := h.set i (.int k x)
 rwa [zfx] at this
theorem zav {P : Program} {t e : TypeId} {k : IntKind} {by_ : Nat} (ht : P.underlying t = some (.slice e)) (hinfo : (P.info? e).map (fun i => (i.zero, i.size, i.bytes)) = some (some (.int k 0), 1, by_)) (L : Int) (n : Nat) (hL : L = (n : Int))
  (hb : by_ * n ≤ 281474976710656) (hn : n ≤ 9223372036854775807) (W : World) :
  (Instr.makeSlice t (.int .i64 L) (.int .i64 L)).run P W = .ok (.slice (some ⟨W.heap.size, 0, none⟩) n n) (W.alloc (.cells (nums k (List.replicate n 0)) e)) := by
 obtain ⟨i0, hi, hz0, hz1, hz2⟩ := info_parts hinfo
 subst hL
 have hb' : (i0.bytes : Int) * (n : Int) ≤ 281474976710656 := by
  rw [hz2]
  have h : ((by_ * n : Nat) : Int) ≤ 281474976710656 := by omega
  rwa [Int.natCast_mul] at h
 have := run_make (P := P) W t e i0 (.int k 0) ht hi hz0 .i64 .i64 n n (by omega) (by omega) hb' (by omega)
 simp only [Int.toNat_natCast, hz1, Nat.mul_one] at this
 rw [this]
 simp only [Value.cells]
 rw [zjT]
theorem Sl.of_blk {w : World} {k : IntKind} {g : Nat} {t : TypeId} {xs : List Int} (h : Blk w g t (nums k xs)) : Sl w k (some ⟨g, 0, none⟩) xs.length xs := by
 refine ⟨rfl, fun _ => ⟨_, rfl, h.lt, fun i x hx => ?_⟩⟩
 have e : (⟨g, 0, none⟩ : Addr).add i = ⟨g, i, none⟩ := by unfold Addr.add; split <;> simp_all
 rw [e, h.cell i, zbO hx]
theorem Sl.of_blk' {w : World} {k : IntKind} {g n : Nat} {t : TypeId} {xs : List Int} (h : Blk w g t (nums k xs)) (hn : xs.length = n) : Sl w k (some ⟨g, 0, none⟩) n xs := hn ▸ Sl.of_blk h
def W64 : Int := 18446744073709551616
theorem zaf : 0 < W64 := by decide
def sgn (b : Bool) (z : Int) : Int := if b then - z else z
def Lg (w : World) (b : Bool) (A : Option Addr) (n c : Nat) (z : Int) : Prop :=
 n ≤ c ∧ ∃ xs, Sl w .u64 A n xs ∧ InR W64 xs ∧ Nz xs ∧ (b = true → xs ≠ []) ∧ z = sgn b (val W64 xs)
theorem Lg.later {W w : World} {b : Bool} {A : Option Addr} {n c : Nat} {z : Int} (h : Lg W b A n c z) (hl : Lat W w) : Lg w b A n c z := by
 obtain ⟨hn, xs, hs, r⟩ := h
 exact ⟨hn, xs, hs.later hl, r⟩
def LongPost (w : World) (z : Int) (N : Nat) (e : Ending) (w' : World) : Prop :=
 ∃ b A n c, e = .returned (.agg #[.bool b, .slice A n c]) ∧ Lg w' b A n c z ∧ n ≤ N ∧ Lat w w'
def zcf (w : World) (z : Int) (N : Nat) (e : Ending) (w' : World) : Prop :=
 ∃ A n c xs, e = .returned (.slice A n c) ∧ Sl w' .u64 A n xs ∧ InR W64 xs ∧ val W64 xs = z ∧ n ≤ c ∧ n ≤ N ∧ Lat w w' ∧ ∀ a, A = some a → w.heap.size ≤ a.block
def zn7 (w : World) (z : Int) (N : Nat) (e : Ending) (w' : World) : Prop :=
 ∃ A n c xs, e = .returned (.slice A n c) ∧ Sl w' .u64 A n xs ∧ InR W64 xs ∧ Nz xs ∧ val W64 xs = z ∧ n ≤ c ∧ n ≤ N ∧ Lat w w' ∧ ∀ a, A = some a → w.heap.size ≤ a.block
def LongAt (w : World) (A : Option Addr) (c : Nat) (z : Int) (N : Nat) (e : Ending) (w' : World) : Prop :=
 ∃ b n, e = .returned (.agg #[.bool b, .slice A n c]) ∧ Lg w' b A n c z ∧ n ≤ N ∧ Lat w w'
theorem LongAt.words {w : World} {A : Option Addr} {c : Nat} {z : Int} {N : Nat} {e : Ending} {w' : World} (h : LongAt w A c z N e w') (h0 : 0 ≤ z) :
  ∃ n xs, e = .returned (.agg #[.bool false, .slice A n c]) ∧ Sl w' .u64 A n xs ∧ InR W64 xs ∧ Nz xs ∧ val W64 xs = z ∧ n ≤ c ∧ n ≤ N ∧ Lat w w' := by
 obtain ⟨b, n, rfl, ⟨hn, xs, h1, h2, h3, h4, h5⟩, h6, h7⟩ := h
 cases b with
 | false => exact ⟨n, xs, rfl, h1, h2, h3, h5.symm, hn, h6, h7⟩
 | true =>
   have := zaX zaf h2 h3 (h4 rfl)
   simp only [sgn, if_true] at h5
   omega
theorem Sl.far {w : World} {k : IntKind} {A : Option Addr} {n : Nat} {xs : List Int} (h : Sl w k A n xs) {p : Addr} (hp : ∀ a, A = some a → a.block ≠ p.block) (u : Value) : Sl (w.setCell p u) k A n xs := by
 refine ⟨h.1, fun hn => ?_⟩
 obtain ⟨a, e, hlt, hc⟩ := h.2 hn
 refine ⟨a, e, by simpa [World.setCell] using hlt, fun j x hx => ?_⟩
 rw [← hc j x hx]
 exact World.cell?_of_block (by rw [block_add]; exact Below.heap_setCell _ _ _ _ (hp a e))
def zeS (x y c : Int) : Int := (x + y + c) % 18446744073709551616
def zhj (x y c : Int) : Int := (x + y + c) / 18446744073709551616
theorem zbE {x y c : Int} (hx : 0 ≤ x ∧ x < W64) (hy : 0 ≤ y ∧ y < W64) (hc : 0 ≤ c ∧ c ≤ 1) : zeS x y c + W64 * zhj x y c = x + y + c ∧ (0 ≤ zeS x y c ∧ zeS x y c < W64) ∧ 0 ≤ zhj x y c ∧ zhj x y c ≤ 1 := by
 unfold zeS zhj W64 at *; omega
def zgm (x y c : Int) : Int := (x - y - c) % 18446744073709551616
def zjU (x y c : Int) : Int := if x < y + c then 1 else 0
theorem zgn {x y c : Int} (hx : 0 ≤ x ∧ x < W64) (hy : 0 ≤ y ∧ y < W64) (hc : 0 ≤ c ∧ c ≤ 1) : zgm x y c - W64 * zjU x y c = x - y - c ∧ (0 ≤ zgm x y c ∧ zgm x y c < W64) ∧ 0 ≤ zjU x y c ∧ zjU x y c ≤ 1 := by
 unfold zgm zjU W64 at *; split <;> omega
def zcg (x : Int) (n : Nat) : Int := x * 2 ^ n % W64
def zfy (x : Int) (n : Nat) : Int := x / 2 ^ n
theorem zbu (x : Int) : IntKind.u64.wrap x = x % W64 := by
 rw [IntKind.wrap_u64]; rfl
theorem two_pow_pos (n : Nat) : (0 : Int) < 2 ^ n := Int.pow_pos (by decide)
theorem zcE {a b : Int} {r : Nat} (hr : r ≤ 64) (ha : 0 ≤ a ∧ a < 2 ^ r) (hb : 0 ≤ b) (hbW : 2 ^ r * b < W64) : bits .or .u64 a (2 ^ r * b) = a + 2 ^ r * b := by
 obtain ⟨A, rfl⟩ := Int.eq_ofNat_of_zero_le ha.1
 obtain ⟨B, rfl⟩ := Int.eq_ofNat_of_zero_le hb
 have hA : A < 2 ^ r := by exact_mod_cast ha.2
 have e : (2 : Int) ^ r * (B : Int) = ((2 ^ r * B : Nat) : Int) := by simp
 have hA2 : A < 2 ^ 64 := Nat.lt_of_lt_of_le hA (Nat.pow_le_pow_right (by decide) hr)
 unfold W64 at hbW
 rw [e] at hbW ⊢
 rw [u64_or_nat A (2 ^ r * B) (by omega) (by omega), Nat.or_comm, ← Nat.two_pow_add_eq_or_of_lt hA]
 omega
theorem zcF {x : Int} (hx : 0 ≤ x ∧ x < W64) {r : Nat} (hr : r < 64) :
  zcg x r + W64 * zfy x (64 - r) = x * 2 ^ r ∧ (0 ≤ zcg x r ∧ zcg x r < W64) ∧ (∃ b, 0 ≤ b ∧ zcg x r = 2 ^ r * b) ∧ 0 ≤ zfy x (64 - r) ∧ zfy x (64 - r) < 2 ^ r := by
 have hW : W64 = 2 ^ r * 2 ^ (64 - r) := by
  rw [← Int.pow_add, show r + (64 - r) = 64 by omega]; rfl
 have p1 := two_pow_pos r
 have p2 := two_pow_pos (64 - r)
 unfold zcg zfy
 generalize (2 : Int) ^ (64 - r) = q at *
 generalize (2 : Int) ^ r = p at *
 have e1 : x * p % W64 = p * (x % q) := by rw [hW, Int.mul_comm x p, Int.mul_emod_mul_of_pos _ _ p1]
 have d := Int.emod_add_mul_ediv x q
 have m0 := Int.emod_nonneg x (show q ≠ 0 by omega)
 have m1 := Int.emod_lt_of_pos x p2
 have q0 : 0 ≤ x / q := Int.ediv_nonneg hx.1 (by omega)
 refine ⟨?_, ?_, ⟨x % q, m0, e1⟩, q0, ?_⟩
 ·rw [e1, hW]
  generalize x % q = u at *
  generalize x / q = v at *
  rw [← d]
  grind
 ·rw [e1]
  refine ⟨Int.mul_nonneg (by omega) m0, ?_⟩
  rw [hW]
  exact Int.mul_lt_mul_of_pos_left m1 p1
 ·rw [hW] at hx
  exact Int.ediv_lt_of_lt_mul p2 hx.2
def CmpPost (w : World) (p q : Int) (e : Ending) (w' : World) : Prop :=
 ∃ r : Int, e = .returned (.int .i64 r) ∧ (p < q → r < 0) ∧ (p = q → r = 0) ∧ (q < p → 0 < r) ∧ (-1000000 ≤ r ∧ r ≤ 1000000) ∧ Lat w w'
theorem znf {k : IntKind} {a b : Int} (h : a = b) : Ending.returned (.int k a) = .returned (.int k b) := by rw [h]
theorem Sl.off' {w : World} {k : IntKind} {A : Option Addr} {n : Nat} {xs : List Int} (h : Sl w k A n xs) {p : Addr} (hp : 0 < n → ∀ a, A = some a → a.block ≠ p.block) (u : Value) : Sl (w.setCell p u) k A n xs := by
 rcases Nat.eq_zero_or_pos n with h0 | h0
 ·exact ⟨h.1, fun hn => absurd hn (by omega)⟩
 ·exact h.far (hp h0) u
theorem zdT {xs ys : List Int} {j : Nat} {x y : Int} (hx : xs[j]? = some x) (hy : ys[j]? = some y) (he : x = y) (hd : xs.drop (j + 1) = ys.drop (j + 1)) : xs.drop j = ys.drop j := by
 obtain ⟨lx, ex⟩ := List.getElem?_eq_some_iff.1 hx
 obtain ⟨ly, ey⟩ := List.getElem?_eq_some_iff.1 hy
 rw [List.drop_eq_getElem_cons lx, List.drop_eq_getElem_cons ly, ex, ey, he, hd]
def LatS (W : World) (gs : List Nat) (w : World) : Prop := W.heap.size ≤ w.heap.size ∧ ∀ k, k < W.heap.size → k ∉ gs → w.heap[k]? = W.heap[k]?
theorem Lat.s {W w : World} (h : Lat W w) (gs : List Nat) : LatS W gs w := ⟨h.size, fun k hk _ => Below.block h k hk⟩
theorem LatS.set {W w : World} {gs : List Nat} (h : LatS W gs w) {p : Addr} (hp : p.block ∈ gs) (u : Value) : LatS W gs (w.setCell p u) :=
 ⟨by simpa [World.setCell] using h.1, fun k hk hn => (Below.heap_setCell w p u k (fun e => hn (by rw [e]; exact hp))).trans (h.2 k hk hn)⟩
theorem Blk.evS {W : World} {g : Nat} {t : TypeId} {cs : Array Value} (h : Blk W g t cs) {gs : List Nat} (hg : g ∉ gs) (i : Nat) {v : Value} (hi : cs[i]? = some v) : ∀ w, LatS W gs w → w.cell? ⟨g, i, none⟩ = some v :=
 fun w hl => (cell_of_row w g i cs t (0, 0) ((hl.2 g h.lt hg).trans h)).trans hi
theorem Sl.apart {w : World} {k : IntKind} {A : Option Addr} {n : Nat} {xs : List Int} {g : Nat} {t : TypeId} {cs : Array Value} (h : Sl w k A n xs) (hb : Blk w g t cs) (hno : ∀ (j : Nat) (x : Int), cs[j]? ≠ some (.int k x)) : 0 < n → ∀ a, A = some a → a.block ≠ g := by
 intro hn a ha he
 obtain ⟨a', e, hlt, hc⟩ := h.2 hn
 rw [ha] at e
 cases e
 have hl : 0 < xs.length := by have := h.1; omega
 have hcell := hc 0 _ (List.getElem?_eq_getElem hl)
 unfold World.cell? at hcell
 rw [block_add, he] at hcell
 unfold Blk at hb
 rw [hb] at hcell
 simp only at hcell
 split at hcell
 ·cases hcell
 ·exact hno _ _ hcell
theorem gen {Q : World → Prop} (W : World) (h : ∀ W', W' = W → Q W') : Q W := h W rfl
theorem zhU (a b : Int) : Int.gcd b (a % b) = Int.gcd a b := by
 rw [Int.emod_def]; simp [Int.gcd_comm]
end Go.Proofs.YtpmbglhbcjbkcaaGreat
