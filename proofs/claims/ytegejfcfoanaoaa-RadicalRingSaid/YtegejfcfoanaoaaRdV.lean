
/- Radical: what Make's walk needs besides. -/
import Derived.Deep.DeepCutAuto
import Derived.Test.YtegejfcfoanaoaaRdO
import Derived.Test.YtegejfcfoanaoaaRdX
import Derived.Test.YtegejfcfoanaoaaRdG
import Derived.Test.YtegejfcfoanaoaaQ06
import Derived.Test.YtegejfcfoanaoaaJ08
import Derived.Test.YtegejfcfoanaoaaJ16
namespace Go.Proofs.Ytegejfcfoanaoaa
open Go.RowKit Go.Maps
set_option linter.unusedSimpArgs false
set_option linter.unusedVariables false
set_option maxRecDepth 100000

/-- A number of the program in a slot. -/
def GV (z : Int) (N : Nat) (v : Value) (w : World) : Prop := ∃ b A n c, v = .agg #[.bool b, .slice A n c] ∧ Lg w b A n c z ∧ n ≤ N
theorem GV.mono {z : Int} {N : Nat} {v : Value} {w w' : World} (h : GV z N v w) (hl : Lat w w') : GV z N v w' := by
  obtain ⟨b, A, n, c, e, hr, hn⟩ := h
  exact ⟨b, A, n, c, e, hr.later hl, hn⟩
theorem LongPost.run {w w' : World} {z : Int} {N : Nat} {e : Ending} {d : Prop} (h : LongPost w z N e w') : ∃ v, e = .returned v ∧ (Lat w w' ∧ (d → GV z N v w')) := by
  obtain ⟨b, A, n, c, e, hr, hn, hl⟩ := h
  exact ⟨_, e, hl, fun _ => ⟨b, A, n, c, rfl, hr, hn⟩⟩
theorem MapL.mono {w : World} {b n n' M M' : Nat} {D : DataW Value} {f g : Int → Int} (h : MapL w b n M D f) (hn : n ≤ n') (hM : M ≤ M') (hf : ∀ u, f u = g u) : MapL w b n' M' D g := by
  refine ⟨h.1.mono hn, fun u => ?_⟩
  obtain ⟨bb, A, m, c, a1, a2, a3⟩ := h.2 u
  exact ⟨bb, A, m, c, a1, by rw [← hf u]; exact a2, by omega⟩
theorem op_mapL {o : Oper} {a : Act} {w : World} {K : Act → World → Prop} {Q : Exit → Act → World → Prop} (m x v : Operand) (hop : o.op = .mapUpdate 52 m x v) (hd : o.dst = none) {b n M N : Nat} {D : DataW Value} {f : Int → Int}
    (hm : a.eval m = .map (some b)) (u : Int) (h0 : -9223372036854775808 ≤ u) (h1 : u < 9223372036854775808) (hx : a.eval x = .int .i64 u) {bb : Bool} {A : Option Addr} {mm c : Nat} {z : Int} (hv : a.eval v = .agg #[.bool bb, .slice A mm c])
    (hML : MapL w b n M D f) (hn : n ≤ 1000000) (hlg : Lg w bb A mm c z) (hmN : mm ≤ N) (hMN : M ≤ N)
    (h : ∀ w', MapL w' b (n + 1) N (D.put (lk u) (.held (.agg #[.bool bb, .slice A mm c]))) (fun x => if x = u then z else f x) → LatP (· = b) w w' → K a w') : o.wp Try.prog a w K Q := by
  obtain ⟨w', hrun, r1, r2⟩ := hML.1.update keyI Try.underlying52 (by unfold maxLen; omega) (keyOf_int_mk Try.underlying3 (wf_i64 h0 h1)) (d := .held (.agg #[.bool bb, .slice A mm c])) (ps := []) rfl
  have hk := h w' (hML.upd u hlg hmN hMN r1 r2) (grown_latP r2)
  unfold Oper.wp
  simp [execOp, hop, hm, hx, hv, hrun, Result.andThen]
  have e : a.put o.dst undef = a := by rw [hd]; rfl
  show K (a.put o.dst undef) w'
  rw [e]
  exact hk
theorem Own.base {w : World} {B B' : Nat} {E : TypeId} {k : IntKind} {v : Value} {xs : List Int} (h : Own w B E k v xs) (hB : B' ≤ B) : Own w B' E k v xs := by
  obtain ⟨h1, h2⟩ := h
  refine ⟨h1, ?_⟩
  rcases h2 with h2 | ⟨g, cap, cur, a1, a2, a3⟩
  · exact .inl h2
  · exact .inr ⟨g, cap, cur, a1, Nat.le_trans hB a2, a3⟩
theorem OwnM.base {w : World} {B B' m : Nat} {E : TypeId} {v : Value} {xs : List (List Value)} (h : OwnM w B E m v xs) (hB : B' ≤ B) : OwnM w B' E m v xs := by
  obtain ⟨h0, h1, h2⟩ := h
  refine ⟨h0, h1, ?_⟩
  rcases h2 with h2 | ⟨g, cap, cur, a1, a2, a3⟩
  · exact .inl h2
  · exact .inr ⟨g, cap, cur, a1, Nat.le_trans hB a2, a3⟩
/-- The sums fit into wide numbers. -/
theorem big_bnd (u : Nat) : ∀ l : List (Int × Int), (∀ x ∈ l, okT x) → -(10000000000000000000000000000 * (l.length : Int)) ≤ cf u l ∧ cf u l ≤ 10000000000000000000000000000 * (l.length : Int)
  | [], _ => by simp [cf_nil]
  | x :: r, h => by
    have ih := big_bnd u r (fun y hy => h y (.tail _ hy))
    obtain ⟨h1, h2, h3, h4⟩ := h x (.head _)
    have h5 : -10000000000000000000000000000 ≤ cfT u x ∧ cfT u x ≤ 10000000000000000000000000000 := by
      unfold cfT
      split
      · rename_i hx
        have := (part_le (n := x.2.toNat) (by omega)).1
        exact mul_bnd (M := 1000000000000000) (N := 10000000000000) (by omega) h4 (by omega) (by omega)
      · omega
    rw [cf_cons, List.length_cons]
    omega
theorem P511_huge : (10000000000000000000000000000 : Int) * 1000 < P511 := by decide
/-- The factor of a sum as the map holds it, behind one term more. -/
theorem cf_take {l : List (Int × Int)} {j : Nat} {x : Int × Int} (h : l[j]? = some x) (u : Nat) : cf u (l.take (j + 1)) = cf u (l.take j) + cfT u x := by
  obtain ⟨h1, h2⟩ := List.getElem?_eq_some_iff.1 h
  rw [List.take_succ_eq_append_getElem h1, h2, cf_append, cf_cons, cf_nil, Int.add_zero]
theorem mem_take {l : List (Int × Int)} {j : Nat} {x : Int × Int} (h : l[j]? = some x) (P : Int × Int → Prop) : (∃ y ∈ l.take (j + 1), P y) ↔ P x ∨ ∃ y ∈ l.take j, P y := by
  obtain ⟨h1, h2⟩ := List.getElem?_eq_some_iff.1 h
  rw [List.take_succ_eq_append_getElem h1, h2]
  constructor
  · rintro ⟨y, hy, hp⟩
    rcases List.mem_append.1 hy with hy | hy
    · exact .inr ⟨y, hy, hp⟩
    · rw [List.mem_singleton] at hy; subst hy; exact .inl hp
  · rintro (hp | ⟨y, hy, hp⟩)
    · exact ⟨x, by simp, hp⟩
    · exact ⟨y, by simp [hy], hp⟩
/-- The roots that occur with a factor that is not 0. -/
def Occ (l : List (Int × Int)) (u : Int) : Prop := ∃ x ∈ l, 0 < x.2 ∧ x.1 ≠ 0 ∧ ((unOf x.2.toNat : Nat) : Int) = u
theorem occ_skip {l : List (Int × Int)} {j : Nat} {x : Int × Int} (h : l[j]? = some x) (hx : ¬ (0 < x.2 ∧ x.1 ≠ 0)) (u : Int) : Occ (l.take (j + 1)) u ↔ Occ (l.take j) u := by
  unfold Occ
  rw [mem_take h]
  exact ⟨fun h => h.resolve_left (fun k => hx ⟨k.1, k.2.1⟩), .inr⟩
theorem occ_put {l : List (Int × Int)} {j : Nat} {x : Int × Int} (h : l[j]? = some x) (hx : 0 < x.2) (h0 : x.1 ≠ 0) (u : Int) : Occ (l.take (j + 1)) u ↔ (u = ((unOf x.2.toNat : Nat) : Int) ∨ Occ (l.take j) u) := by
  unfold Occ
  rw [mem_take h]
  constructor
  · rintro (k | k)
    · exact .inl k.2.2.symm
    · exact .inr k
  · rintro (rfl | k)
    · exact .inl ⟨hx, h0, rfl⟩
    · exact .inr k
theorem cfT_skip {x : Int × Int} (hx : ¬ (0 < x.2 ∧ x.1 ≠ 0)) (u : Nat) : cfT u x = 0 := by
  unfold cfT
  split
  · rename_i h
    by_cases h0 : x.1 = 0
    · rw [h0, Int.zero_mul]
    · exact absurd ⟨h.1, h0⟩ hx
  · rfl
theorem cf_put {l : List (Int × Int)} {j : Nat} {x : Int × Int} (h : l[j]? = some x) (hx : 0 < x.2) (u : Int) :
    (if u = ((unOf x.2.toNat : Nat) : Int) then cf (unOf x.2.toNat) (l.take j) + x.1 * (sqOf x.2.toNat : Nat) else cf u.toNat (l.take j)) = cf u.toNat (l.take (j + 1)) := by
  have hq := unOf_pos hx
  rw [cf_take h]
  by_cases hu : u = ((unOf x.2.toNat : Nat) : Int)
  · rw [if_pos hu]
    subst hu
    rw [Int.toNat_natCast]
    congr 1
    unfold cfT
    rw [if_pos ⟨hx, rfl⟩]
  · rw [if_neg hu]
    have : cfT u.toNat x = 0 := by
      unfold cfT
      rw [if_neg]
      rintro ⟨_, h2⟩
      omega
    omega
end Go.Proofs.Ytegejfcfoanaoaa
