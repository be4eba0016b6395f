/- Several texts in one: RdA, RdM, RdR. -/
import Derived.Test.YtpmbglhbcjbkcaaGreatH02
namespace Go.Proofs.YtpmbglhbcjbkcaaGreat
def rtF : Nat → Nat → Nat
 | 0, _ => 0
 | k + 1, n => if (k + 1) * (k + 1) ≤ n then k + 1 else rtF k n
def rt (n : Nat) : Nat := rtF n n
theorem zmV : ∀ k n, rtF k n * rtF k n ≤ n
 | 0, n => by simp [rtF]
 | k + 1, n => by
   unfold rtF
   split
   ·assumption
   ·exact zmV k n
theorem zkp : ∀ k n r, r ≤ k → r * r ≤ n → r ≤ rtF k n
 | 0, n, r, h, _ => by simp [rtF]; omega
 | k + 1, n, r, h, h2 => by
   unfold rtF
   split
   ·exact h
   ·rename_i h3
    rcases Nat.lt_or_ge r (k + 1) with h4 | h4
    ·exact zkp k n r (by omega) h2
    ·obtain rfl : r = k + 1 := by omega
     exact absurd h2 h3
theorem zno (n : Nat) : rt n * rt n ≤ n := zmV n n
theorem rt_lt (n : Nat) : n < (rt n + 1) * (rt n + 1) := by
 rcases Nat.lt_or_ge n ((rt n + 1) * (rt n + 1)) with h | h
 ·exact h
 ·have h1 : rt n + 1 ≤ n := Nat.le_trans (Nat.le_mul_of_pos_left _ (by omega)) h
  have := zkp n n (rt n + 1) h1 h
  unfold rt at this
  omega
theorem rt_eq {n r : Nat} (h1 : r * r ≤ n) (h2 : n < (r + 1) * (r + 1)) : rt n = r := by
 have a := zno n
 have b := rt_lt n
 rcases Nat.lt_trichotomy (rt n) r with h | h | h
 ·have : (rt n + 1) * (rt n + 1) ≤ r * r := Nat.mul_le_mul h h
  omega
 ·exact h
 ·have : (r + 1) * (r + 1) ≤ rt n * rt n := Nat.mul_le_mul h h
  omega
def rtZ (z : Int) : Int := (rt z.toNat : Nat)
theorem zh7 {z r : Int} (h0 : 0 ≤ r) (h1 : r * r ≤ z) (h2 : z < (r + 1) * (r + 1)) : rtZ z = r := by
 obtain ⟨n, rfl⟩ := Int.eq_ofNat_of_zero_le h0
 obtain ⟨m, rfl⟩ := Int.eq_ofNat_of_zero_le (Int.le_trans (Int.mul_nonneg h0 h0) h1)
 unfold rtZ
 rw [Int.toNat_natCast, rt_eq (r := n)]
 ·exact_mod_cast h1
 ·exact_mod_cast h2
theorem zkq (n : Nat) : rtZ (n : Int) = (rt n : Nat) := by unfold rtZ; rw [Int.toNat_natCast]
def zkr (p : Nat) : Nat → Nat → Nat
 | 0, _ => 0
 | f + 1, n => if n % p = 0 then zkr p f (n / p) + 1 else 0
def zfO (p n : Nat) : Nat := zkr p n n
def zc3 (p n : Nat) : Nat := n / p ^ zfO p n
theorem zh8 {p : Nat} (hp : 2 ≤ p) : ∀ (e f m : Nat), m % p ≠ 0 → e ≤ f → zkr p f (p ^ e * m) = e
 | 0, 0, m, _, _ => rfl
 | 0, f + 1, m, h, _ => by
   unfold zkr
   rw [Nat.pow_zero, Nat.one_mul, if_neg h]
 | e + 1, 0, m, _, h => by omega
 | e + 1, f + 1, m, h, hle => by
   have e1 : p ^ (e + 1) * m = p * (p ^ e * m) := by rw [Nat.pow_succ, Nat.mul_comm (p ^ e) p, Nat.mul_assoc]
   unfold zkr
   rw [e1, if_pos (Nat.mul_mod_right _ _), Nat.mul_div_cancel_left _ (by omega), zh8 hp e f m h (by omega)]
theorem zmW (p e : Nat) (hp : 2 ≤ p) : e < p ^ e := Nat.lt_pow_self (by omega)
theorem zdp {p e m n : Nat} (hp : 2 ≤ p) (hm : m % p ≠ 0) (hn : n = p ^ e * m) : zfO p n = e ∧ zc3 p n = m := by
 have h0 : 0 < m := by
  rcases Nat.eq_zero_or_pos m with h | h
  ·subst h; simp at hm
  ·exact h
 have hle : e ≤ n := by
  have := zmW p e hp
  have : p ^ e * 1 ≤ p ^ e * m := Nat.mul_le_mul_left _ h0
  omega
 have h1 : zfO p n = e := by
  unfold zfO
  rw [hn] at hle ⊢
  exact zh8 hp e _ m hm hle
 refine ⟨h1, ?_⟩
 unfold zc3
 rw [h1, hn]
 exact Nat.mul_div_cancel_left _ (Nat.pow_pos (by omega))
theorem znp {p : Nat} (hp : 2 ≤ p) : ∀ n, 0 < n → ∃ e m, n = p ^ e * m ∧ m % p ≠ 0 := by
 intro n
 induction n using Nat.strongRecOn with
 | _ n ih =>
   intro hn
   by_cases h : n % p = 0
   ·have hd : n = p * (n / p) := (Nat.mul_div_cancel' (Nat.dvd_of_mod_eq_zero h)).symm
    have hlt : n / p < n := Nat.div_lt_self hn hp
    have h0 : 0 < n / p := by
     rcases Nat.eq_zero_or_pos (n / p) with h | h
     ·rw [h] at hd; omega
     ·exact h
    obtain ⟨e, m, h1, h2⟩ := ih _ hlt h0
    refine ⟨e + 1, m, ?_, h2⟩
    rw [hd, h1, Nat.pow_succ, Nat.mul_comm (p ^ e) p, Nat.mul_assoc]
   ·exact ⟨0, n, by simp, h⟩
theorem zee {p n : Nat} (hp : 2 ≤ p) (hn : 0 < n) : n = p ^ zfO p n * zc3 p n ∧ zc3 p n % p ≠ 0 ∧ 0 < zc3 p n := by
 obtain ⟨e, m, h1, h2⟩ := znp hp n hn
 obtain ⟨h3, h4⟩ := zdp hp h2 h1
 rw [h3, h4]
 refine ⟨h1, h2, ?_⟩
 rcases Nat.eq_zero_or_pos m with h | h
 ·subst h; simp at h2
 ·exact h
def zh9 (n : Nat) : Nat × Nat := if rt n * rt n = n then (rt n, 1) else (1, n)
def zaN : Nat → Nat → Nat → Nat × Nat
 | 0, _, n => zh9 n
 | f + 1, p, n => (p ^ (zfO p n / 2) * (zaN f (p + 1) (zc3 p n)).1, p ^ (zfO p n % 2) * (zaN f (p + 1) (zc3 p n)).2)
noncomputable def zfd : Nat := Classical.choose (⟨21544, rfl⟩ : ∃ n, n = 21544)
theorem zef : zfd = 21544 := Classical.choose_spec (⟨21544, rfl⟩ : ∃ n, n = 21544)
noncomputable def zbR (n : Nat) : Nat := (zaN zfd 2 n).1
noncomputable def zbs (n : Nat) : Nat := (zaN zfd 2 n).2
theorem zks (n : Nat) : (zh9 n).1 * (zh9 n).1 * (zh9 n).2 = n := by
 unfold zh9
 split
 ·rename_i h; simp [h]
 ·simp
theorem zia (p e : Nat) : p ^ (e / 2) * p ^ (e / 2) * p ^ (e % 2) = p ^ e := by
 rw [← Nat.pow_add, ← Nat.pow_add]
 congr 1
 omega
theorem zeg : ∀ (f p n : Nat), 2 ≤ p → 0 < n → (zaN f p n).1 * (zaN f p n).1 * (zaN f p n).2 = n
 | 0, p, n, _, _ => zks n
 | f + 1, p, n, hp, hn => by
   obtain ⟨h1, _, h3⟩ := zee hp hn
   have ih := zeg f (p + 1) (zc3 p n) (by omega) h3
   have hh := zia p (zfO p n)
   simp only [zaN]
   generalize zaN f (p + 1) (zc3 p n) = r at ih ⊢
   generalize p ^ (zfO p n / 2) = a at hh ⊢
   generalize p ^ (zfO p n % 2) = b at hh ⊢
   rw [← ih, ← hh] at h1
   rw [h1]
   simp only [Nat.mul_left_comm, Nat.mul_comm]
theorem zeh {n : Nat} (hn : 0 < n) : zbR n * zbR n * zbs n = n := zeg _ _ _ (by omega) hn
theorem zct {n : Nat} (hn : 0 < n) : 0 < zbR n ∧ 0 < zbs n := by
 have h := zeh hn
 constructor
 ·rcases Nat.eq_zero_or_pos (zbR n) with h0 | h0
  ·rw [h0] at h; simp at h; omega
  ·exact h0
 ·rcases Nat.eq_zero_or_pos (zbs n) with h0 | h0
  ·rw [h0] at h; simp at h; omega
  ·exact h0
theorem zfe {a b n : Nat} (h : a * a * b = n) (hn : 0 < n) : a ≤ n ∧ b ≤ n := by
 have ha : 0 < a := by
  rcases Nat.eq_zero_or_pos a with h0 | h0
  ·subst h0; simp at h; omega
  ·exact h0
 have hb : 0 < b := by
  rcases Nat.eq_zero_or_pos b with h0 | h0
  ·subst h0; simp at h; omega
  ·exact h0
 constructor
 ·have h1 : a * 1 ≤ a * (a * b) := Nat.mul_le_mul_left _ (Nat.mul_pos ha hb)
  rw [← Nat.mul_assoc] at h1
  omega
 ·have h1 : 1 * b ≤ a * a * b := Nat.mul_le_mul_right _ (Nat.mul_pos ha ha)
  omega
theorem zb6 {n : Nat} (hn : 0 < n) : zbR n ≤ n ∧ zbs n ≤ n := zfe (zeh hn) hn
theorem zdF : ∀ (f p n : Nat), 2 ≤ p → 0 < n → zaN f p (zaN f p n).2 = (1, (zaN f p n).2) ∧ (zaN f p n).2 ∣ n
 | 0, p, n, _, hn => by
   simp only [zaN]
   unfold zh9
   split
   ·rename_i h
    refine ⟨?_, Nat.one_dvd _⟩
    rfl
   ·rename_i h
    refine ⟨?_, Nat.dvd_refl _⟩
    trivial
 | f + 1, p, n, hp, hn => by
   obtain ⟨h1, h2, h3⟩ := zee hp hn
   obtain ⟨i1, i2⟩ := zdF f (p + 1) (zc3 p n) (by omega) h3
   simp only [zaN]
   generalize (zaN f (p + 1) (zc3 p n)).2 = M at i1 i2 ⊢
   have hM : M % p ≠ 0 := fun h => h2 (Nat.mod_eq_zero_of_dvd (Nat.dvd_trans (Nat.dvd_of_mod_eq_zero h) i2))
   obtain ⟨e1, e2⟩ := zdp (n := p ^ (zfO p n % 2) * M) hp hM rfl
   rw [e1, e2, i1]
   refine ⟨?_, ?_⟩
   ·have a1 : zfO p n % 2 / 2 = 0 := by omega
    have a2 : zfO p n % 2 % 2 = zfO p n % 2 := by omega
    rw [a1, a2, Nat.pow_zero, Nat.mul_one]
   ·have : p ^ (zfO p n % 2) ∣ p ^ zfO p n := Nat.pow_dvd_pow _ (Nat.mod_le _ _)
    have h4 := Nat.mul_dvd_mul this i2
    rw [← h1] at h4
    exact h4
theorem zje {n : Nat} (hn : 0 < n) : zbR (zbs n) = 1 ∧ zbs (zbs n) = zbs n := by
 have h := (zdF zfd 2 n (by omega) hn).1
 exact ⟨by unfold zbR; unfold zbs; rw [h], by show (zaN zfd 2 (zbs n)).2 = _; unfold zbs; rw [h]⟩
theorem zkt {n : Nat} (hn : 0 < n) (h : zbR n ≤ 1) : zbR n = 1 ∧ zbs n = n := by
 have h1 := zeh hn
 have h2 := (zct hn).1
 have h3 : zbR n = 1 := by omega
 rw [h3] at h1
 exact ⟨h3, by omega⟩
def NoDiv (p n : Nat) : Prop := ∀ q, 2 ≤ q → q < p → n % q ≠ 0
theorem NoDiv.two (n : Nat) : NoDiv 2 n := fun q h1 h2 => by omega
theorem NoDiv.step {p n m : Nat} (h : NoDiv p n) (hd : m ∣ n) (hm : m % p ≠ 0) : NoDiv (p + 1) m := fun q h1 h2 he => by
 rcases Nat.lt_or_ge q p with h3 | h3
 ·exact h q h1 h3 (Nat.mod_eq_zero_of_dvd (Nat.dvd_trans (Nat.dvd_of_mod_eq_zero he) hd))
 ·obtain rfl : q = p := by omega
  exact hm he
theorem zff : ∀ (f p : Nat), 2 ≤ p → zaN f p 1 = (1, 1)
 | 0, _, _ => rfl
 | f + 1, p, hp => by
   obtain ⟨e1, e2⟩ := zdp (p := p) (e := 0) (m := 1) (n := 1) hp (by rw [Nat.mod_eq_of_lt (by omega)]; omega) (by simp)
   simp only [zaN, e1, e2, zff f (p + 1) (by omega)]
   simp
theorem zcN : ∀ (f p n : Nat), 2 ≤ p → 0 < n → n < p * p → NoDiv p n → zaN f p n = zh9 n
 | 0, _, _, _, _, _, _ => rfl
 | f + 1, p, n, hp, hn, hlt, hno => by
   by_cases hd : n % p = 0
   ·have hk : n = p * (n / p) := (Nat.mul_div_cancel' (Nat.dvd_of_mod_eq_zero hd)).symm
    have hkp : n / p < p := Nat.div_lt_of_lt_mul hlt
    have hk1 : n / p = 1 := by
     rcases Nat.lt_or_ge (n / p) 2 with h | h
     ·rcases Nat.eq_zero_or_pos (n / p) with h0 | h0
      ·rw [h0] at hk; omega
      ·omega
     ·exact absurd (Nat.mod_eq_zero_of_dvd ⟨p, by rw [Nat.mul_comm]; exact hk⟩) (hno (n / p) h hkp)
    rw [hk1, Nat.mul_one] at hk
    subst hk
    obtain ⟨e1, e2⟩ := zdp (p := n) (e := 1) (m := 1) (n := n) hp (by rw [Nat.mod_eq_of_lt (by omega)]; omega) (by simp)
    simp only [zaN, e1, e2, zff f (n + 1) (by omega)]
    unfold zh9
    rw [if_neg]
    ·simp
    ·intro hr
     have h2 : 2 ≤ rt n := by
      rcases Nat.lt_or_ge (rt n) 2 with h | h
      ·have : rt n * rt n ≤ 1 * 1 := Nat.mul_le_mul (by omega) (by omega)
       omega
      ·exact h
     have h3 : rt n < n := by
      have : 2 * rt n ≤ rt n * rt n := Nat.mul_le_mul_right _ h2
      omega
     exact hno (rt n) h2 h3 (Nat.mod_eq_zero_of_dvd ⟨rt n, hr.symm⟩)
   ·obtain ⟨e1, e2⟩ := zdp (p := p) (e := 0) (m := n) (n := n) hp hd (by simp)
    have := zcN f (p + 1) n (by omega) hn (Nat.lt_of_lt_of_le hlt (Nat.mul_le_mul (by omega) (by omega))) (hno.step (Nat.dvd_refl _) hd)
    simp only [zaN, e1, e2, this]
    simp
noncomputable def cfT (u : Nat) (x : Int × Int) : Int := if 0 < x.2 ∧ zbs x.2.toNat = u then x.1 * (zbR x.2.toNat : Nat) else 0
noncomputable def cf (u : Nat) (l : List (Int × Int)) : Int := (l.map (cfT u)).sum
theorem zfg (u : Nat) : cf u [] = 0 := rfl
theorem zcl (u : Nat) (x : Int × Int) (l : List (Int × Int)) : cf u (x :: l) = cfT u x + cf u l := by simp [cf]
theorem zei (u : Nat) (l r : List (Int × Int)) : cf u (l ++ r) = cf u l + cf u r := by simp [cf]
def zdG (u : Nat) (z : Int) : List (Nat × Int) → List (Nat × Int)
 | [] => [(u, z)]
 | x :: r => if x.1 = u then (x.1, x.2 + z) :: r else if u < x.1 then (u, z) :: x :: r else x :: zdG u z r
noncomputable def zfP (E : List (Nat × Int)) (x : Int × Int) : List (Nat × Int) := if 0 < x.2 then zdG (zbs x.2.toNat) (x.1 * (zbR x.2.toNat : Nat)) E else E
noncomputable def zbY (l : List (Int × Int)) : List (Nat × Int) := l.foldl zfP []
theorem zgJ (l : List (Int × Int)) (x : Int × Int) : zbY (l ++ [x]) = zfP (zbY l) x := by simp [zbY]
def zmX (E : List (Nat × Int)) : Prop := E.Pairwise fun p q => p.1 < q.1
theorem zc4 (u : Nat) (z : Int) : ∀ (E : List (Nat × Int)) (k : Nat), (∃ s, (k, s) ∈ zdG u z E) ↔ k = u ∨ ∃ s, (k, s) ∈ E
 | [], k => by simp [zdG]
 | x :: r, k => by
   have ih := zc4 u z r k
   unfold zdG
   split
   ·rename_i h
    simp only [List.mem_cons]
    constructor
    ·rintro ⟨s, h1 | h1⟩
     ·left; rw [← h]; exact (Prod.mk.inj h1).1
     ·exact .inr ⟨s, .inr h1⟩
    ·rintro (rfl | ⟨s, h1 | h1⟩)
     ·exact ⟨_, .inl (by rw [h])⟩
     ·exact ⟨_, .inl (by rw [← h1])⟩
     ·exact ⟨s, .inr h1⟩
   ·split
    ·simp only [List.mem_cons]
     constructor
     ·rintro ⟨s, h1 | h1⟩
      ·exact .inl (Prod.mk.inj h1).1
      ·exact .inr ⟨s, h1⟩
     ·rintro (rfl | ⟨s, h1⟩)
      ·exact ⟨_, .inl rfl⟩
      ·exact ⟨s, .inr h1⟩
    ·simp only [List.mem_cons]
     constructor
     ·rintro ⟨s, h1 | h1⟩
      ·exact .inr ⟨s, .inl h1⟩
      ·rcases ih.1 ⟨s, h1⟩ with h2 | ⟨s', h2⟩
       ·exact .inl h2
       ·exact .inr ⟨s', .inr h2⟩
     ·rintro (rfl | ⟨s, h1 | h1⟩)
      ·obtain ⟨s, h2⟩ := ih.2 (.inl rfl)
       exact ⟨s, .inr h2⟩
      ·exact ⟨s, .inl h1⟩
      ·obtain ⟨s', h2⟩ := ih.2 (.inr ⟨s, h1⟩)
       exact ⟨s', .inr h2⟩
theorem zib (u : Nat) (z : Int) : ∀ (E : List (Nat × Int)), zmX E → zmX (zdG u z E)
 | [], _ => by simp [zdG, zmX]
 | x :: r, h => by
   obtain ⟨h1, h2⟩ := List.pairwise_cons.1 h
   unfold zdG
   split
   ·exact List.pairwise_cons.2 ⟨h1, h2⟩
   ·split
    ·rename_i h3 h4
     refine List.pairwise_cons.2 ⟨fun y hy => ?_, h⟩
     rcases List.mem_cons.1 hy with rfl | hy
     ·exact h4
     ·exact Nat.lt_trans h4 (h1 y hy)
    ·rename_i h3 h4
     refine List.pairwise_cons.2 ⟨fun y hy => ?_, zib u z r h2⟩
     rcases (zc4 u z r y.1).1 ⟨y.2, hy⟩ with h5 | ⟨s, h5⟩
     ·omega
     ·exact h1 (y.1, s) h5
theorem zku (u : Nat) (z : Int) : ∀ (E : List (Nat × Int)), zmX E → ∀ k s, (k, s) ∈ zdG u z E → (k ≠ u ∧ (k, s) ∈ E) ∨ (k = u ∧ ((∃ s0, (u, s0) ∈ E ∧ s = s0 + z) ∨ ((∀ s0, (u, s0) ∉ E) ∧ s = z)))
 | [], _, k, s, h => by
   simp [zdG] at h
   obtain ⟨rfl, rfl⟩ := h
   exact .inr ⟨rfl, .inr ⟨fun s0 h => by simp at h, rfl⟩⟩
 | x :: r, hA, k, s, h => by
   obtain ⟨a1, a2⟩ := List.pairwise_cons.1 hA
   unfold zdG at h
   split at h
   ·rename_i hx
    rcases List.mem_cons.1 h with h1 | h1
    ·obtain ⟨rfl, rfl⟩ := Prod.mk.inj h1
     exact .inr ⟨hx, .inl ⟨x.2, by rw [← hx]; simp, rfl⟩⟩
    ·have := a1 _ h1
     exact .inl ⟨by simp only at this; omega, .tail _ h1⟩
   ·rename_i hx
    split at h
    ·rename_i hlt
     rcases List.mem_cons.1 h with h1 | h1
     ·obtain ⟨rfl, rfl⟩ := Prod.mk.inj h1
      refine .inr ⟨rfl, .inr ⟨fun s0 h0 => ?_, rfl⟩⟩
      rcases List.mem_cons.1 h0 with h2 | h2
      ·rw [← h2] at hx; exact hx rfl
      ·have := a1 _ h2
       simp only at this; omega
     ·refine .inl ⟨?_, h1⟩
      rcases List.mem_cons.1 h1 with h2 | h2
      ·rw [← h2] at hlt; simp only at hlt; omega
      ·have := a1 _ h2
       simp only at this; omega
    ·rename_i hlt
     rcases List.mem_cons.1 h with h1 | h1
     ·refine .inl ⟨?_, h1 ▸ .head _⟩
      rw [← h1] at hx; exact hx
     ·rcases zku u z r a2 k s h1 with ⟨h2, h3⟩ | ⟨h2, ⟨s0, h3, h4⟩ | ⟨h3, h4⟩⟩
      ·exact .inl ⟨h2, .tail _ h3⟩
      ·exact .inr ⟨h2, .inl ⟨s0, .tail _ h3, h4⟩⟩
      ·refine .inr ⟨h2, .inr ⟨fun s0 h5 => ?_, h4⟩⟩
       rcases List.mem_cons.1 h5 with h6 | h6
       ·rw [← h6] at hx; exact hx rfl
       ·exact h3 s0 h6
structure SumIs (l : List (Int × Int)) (E : List (Nat × Int)) : Prop where
 asc : zmX E
 val : ∀ k s, (k, s) ∈ E → s = cf k l
 has : ∀ x ∈ l, 0 < x.2 → ∃ s, (zbs x.2.toNat, s) ∈ E
 key : ∀ k s, (k, s) ∈ E → ∃ x ∈ l, 0 < x.2 ∧ zbs x.2.toNat = k
theorem zhx {u : Nat} : ∀ {l : List (Int × Int)}, (∀ x ∈ l, 0 < x.2 → zbs x.2.toNat ≠ u) → cf u l = 0
 | [], _ => rfl
 | x :: r, h => by
   rw [zcl, zhx (fun y hy => h y (.tail _ hy))]
   unfold cfT
   rw [if_neg]
   ·rfl
   ·rintro ⟨h1, h2⟩
    exact h x (.head _) h1 h2
theorem SumIs.snoc {l : List (Int × Int)} {E : List (Nat × Int)} (h : SumIs l E) (x : Int × Int) : SumIs (l ++ [x]) (zfP E x) := by
 unfold zfP
 by_cases hx : 0 < x.2
 ·rw [if_pos hx]
  obtain ⟨h1, h2, h3, h4⟩ := h
  refine ⟨zib _ _ _ h1, fun k s hk => ?_, fun y hy hy0 => ?_, fun k s hk => ?_⟩
  ·rw [zei, zcl, zfg, Int.add_zero]
   rcases zku _ _ _ h1 k s hk with ⟨a, b⟩ | ⟨rfl, ⟨s0, b, rfl⟩ | ⟨b, rfl⟩⟩
   ·rw [h2 k s b]
    unfold cfT
    rw [if_neg (fun c => a c.2.symm), Int.add_zero]
   ·rw [h2 _ s0 b]
    unfold cfT
    rw [if_pos ⟨hx, rfl⟩]
   ·rw [zhx (fun y hy hy0 he => ?_)]
    ·unfold cfT
     rw [if_pos ⟨hx, rfl⟩, Int.zero_add]
    ·obtain ⟨s, hs⟩ := h3 y hy hy0
     rw [he] at hs
     exact b s hs
  ·apply (zc4 _ _ _ _).2
   rcases List.mem_append.1 hy with hy | hy
   ·exact .inr (h3 y hy hy0)
   ·rw [List.mem_singleton] at hy
    subst hy
    exact .inl rfl
  ·rcases (zc4 _ _ _ _).1 ⟨s, hk⟩ with rfl | ⟨s', h5⟩
   ·exact ⟨x, by simp, hx, rfl⟩
   ·obtain ⟨y, y1, y2⟩ := h4 k s' h5
    exact ⟨y, List.mem_append_left _ y1, y2⟩
 ·rw [if_neg hx]
  obtain ⟨h1, h2, h3, h4⟩ := h
  refine ⟨h1, fun k s hk => ?_, fun y hy hy0 => ?_, fun k s hk => ?_⟩
  ·rw [zei, zcl, zfg, Int.add_zero, h2 k s hk]
   unfold cfT
   rw [if_neg (fun c => hx c.1), Int.add_zero]
  ·rcases List.mem_append.1 hy with hy | hy
   ·exact h3 y hy hy0
   ·rw [List.mem_singleton] at hy
    subst hy
    exact absurd hy0 hx
  ·obtain ⟨y, y1, y2⟩ := h4 k s hk
   exact ⟨y, List.mem_append_left _ y1, y2⟩
theorem zlW (l : List (Int × Int)) : SumIs l (zbY l) := by
 suffices h : ∀ (r p : List (Int × Int)) (E : List (Nat × Int)), SumIs p E → SumIs (p ++ r) (r.foldl zfP E) by
  simpa [zbY] using h l [] [] ⟨List.Pairwise.nil, fun k s h => (by simp at h), fun x h => (by simp at h), fun k s h => (by simp at h)⟩
 intro r
 induction r with
 | nil => intro p E h; simpa using h
 | cons x r ih =>
   intro p E h
   have := ih (p ++ [x]) (zfP E x) (h.snoc x)
   simpa using this
def zbo (z : Int) : Prop := -1000000000000000 ≤ z ∧ z ≤ 1000000000000000
instance (z : Int) : Decidable (zbo z) := inferInstanceAs (Decidable (_ ∧ _))
def okT (x : Int × Int) : Prop := 0 ≤ x.2 ∧ x.2 ≤ 10000000000000 ∧ zbo x.1
instance (x : Int × Int) : Decidable (okT x) := inferInstanceAs (Decidable (_ ∧ _))
def zb7 (E : List (Nat × Int)) : List (Int × Int) := E.filterMap fun p => if p.2 = 0 then none else some (p.2, (p.1 : Int))
noncomputable def zaJ (l : List (Int × Int)) : List (Int × Int) := zb7 (zbY l)
noncomputable def zal (l : List (Int × Int)) : Int :=
 if 400 < l.length then 3 else if ∀ x ∈ l, okT x then (if ∀ p ∈ zbY l, zbo p.2 then (if 200 < (zaJ l).length then 3 else 0) else 6) else 2
noncomputable def zdq (l : List (Int × Int)) : List (Int × Int) := if zal l = 0 then zaJ l else []
def zlX (r : List (Int × Int)) : Prop := r.Pairwise fun p q => p.2 < q.2
theorem zfQ {E : List (Nat × Int)} {x : Int × Int} : x ∈ zb7 E ↔ ∃ k, (k, x.1) ∈ E ∧ x.1 ≠ 0 ∧ x.2 = (k : Int) := by
 unfold zb7
 rw [List.mem_filterMap]
 constructor
 ·rintro ⟨p, h1, h2⟩
  split at h2
  ·cases h2
  ·rename_i h3
   cases h2
   exact ⟨p.1, h1, h3, rfl⟩
 ·rintro ⟨k, h1, h2, h3⟩
  refine ⟨(k, x.1), h1, ?_⟩
  rw [if_neg h2]
  cases x
  simp only at h3
  rw [h3]
theorem zic {E : List (Nat × Int)} (h : zmX E) : zlX (zb7 E) := by
 unfold zb7 zlX
 rw [List.pairwise_filterMap]
 refine h.imp ?_
 intro p q hpq a ha b hb
 split at ha
 ·cases ha
 ·split at hb
  ·cases hb
  ·cases ha; cases hb
   simp only
   omega
theorem zej (E : List (Nat × Int)) (p : Nat × Int) : zb7 (E ++ [p]) = zb7 E ++ (if p.2 = 0 then [] else [(p.2, (p.1 : Int))]) := by
 unfold zb7
 rw [List.filterMap_append]
 congr 1
 by_cases h : p.2 = 0
 ·simp [h]
 ·simp [h]
theorem zdN (E : List (Nat × Int)) : (zb7 E).length ≤ E.length := List.length_filterMap_le _ _
theorem zid : ∀ {a b : List (Int × Int)}, zlX a → zlX b → (∀ x, x ∈ a ↔ x ∈ b) → a = b
 | [], [], _, _, _ => rfl
 | [], y :: b, _, _, h => by have := (h y).2 (by simp); simp at this
 | x :: a, [], _, _, h => by have := (h x).1 (by simp); simp at this
 | x :: a, y :: b, ha, hb, h => by
   obtain ⟨a1, a2⟩ := List.pairwise_cons.1 ha
   obtain ⟨b1, b2⟩ := List.pairwise_cons.1 hb
   have hxy : x = y := by
    rcases List.mem_cons.1 ((h x).1 (by simp)) with e | e
    ·exact e
    ·rcases List.mem_cons.1 ((h y).2 (by simp)) with e' | e'
     ·exact e'.symm
     ·have := b1 x e
      have := a1 y e'
      omega
   subst hxy
   congr 1
   refine zid a2 b2 fun z => ⟨fun hz => ?_, fun hz => ?_⟩
   ·rcases List.mem_cons.1 ((h z).1 (.tail _ hz)) with e | e
    ·have := a1 z hz
     rw [e] at this; omega
    ·exact e
   ·rcases List.mem_cons.1 ((h z).2 (.tail _ hz)) with e | e
    ·have := b1 z hz
     rw [e] at this; omega
    ·exact e
theorem zlY {x : Int} (h : 0 < x) : 0 < zbs x.toNat := (zct (by omega)).2
structure zol (f : Nat → Int) (r : List (Int × Int)) : Prop where
 asc : zlX r
 mem : ∀ x, x ∈ r ↔ ∃ k : Nat, x.2 = (k : Int) ∧ f k = x.1 ∧ x.1 ≠ 0
theorem zie {u : Nat} {l : List (Int × Int)} (h : cf u l ≠ 0) : ∃ x ∈ l, 0 < x.2 ∧ x.1 ≠ 0 ∧ zbs x.2.toNat = u := by
 induction l with
 | nil => exact absurd rfl h
 | cons x r ih =>
   rw [zcl] at h
   by_cases hx : cfT u x = 0
   ·obtain ⟨y, h1, h2⟩ := ih (by omega)
    exact ⟨y, .tail _ h1, h2⟩
   ·unfold cfT at hx
    split at hx
    ·rename_i h1
     exact ⟨x, .head _, h1.1, fun h0 => hx (by rw [h0, Int.zero_mul]), h1.2⟩
    ·exact absurd rfl hx
theorem zc5 (l : List (Int × Int)) : zol (fun u => cf u l) (zaJ l) := by
 have hs := zlW l
 refine ⟨zic hs.asc, fun x => ?_⟩
 unfold zaJ
 rw [zfQ]
 constructor
 ·rintro ⟨k, h1, h2, h3⟩
  exact ⟨k, h3, (hs.val _ _ h1).symm, h2⟩
 ·rintro ⟨k, h1, h2, h3⟩
  obtain ⟨y, y1, y2, _, y3⟩ := zie (u := k) (l := l) (by omega)
  obtain ⟨s, hs1⟩ := hs.has y y1 y2
  rw [y3] at hs1
  have := hs.val _ _ hs1
  exact ⟨k, by rw [← h2, ← this]; exact hs1, h3, h1⟩
theorem zjf {l : List (Int × Int)} {K : List Nat} (hK : K.Pairwise (· < ·)) (hm : ∀ u, u ∈ K ↔ ∃ x ∈ l, 0 < x.2 ∧ x.1 ≠ 0 ∧ zbs x.2.toNat = u) :
  zb7 (K.map fun u => (u, cf u l)) = zaJ l ∧ ((∀ u ∈ K, zbo (cf u l)) ↔ ∀ p ∈ zbY l, zbo p.2) := by
 have hs := zlW l
 have hasc : zmX (K.map fun u => (u, cf u l)) := by
  unfold zmX
  rw [List.pairwise_map]
  exact hK
 constructor
 ·refine zid (zic hasc) (zc5 l).asc fun x => ?_
  rw [(zc5 l).mem, zfQ]
  constructor
  ·rintro ⟨k, h1, h2, h3⟩
   obtain ⟨u, h4, h5⟩ := List.mem_map.1 h1
   obtain ⟨rfl, h6⟩ := Prod.mk.inj h5
   exact ⟨_, h3, h6, h2⟩
  ·rintro ⟨k, h1, h2, h3⟩
   refine ⟨k, List.mem_map.2 ⟨k, ?_, by rw [← h2]⟩, h3, h1⟩
   exact (hm k).2 (zie (by omega))
 ·constructor
  ·intro h p hp
   obtain ⟨k, s⟩ := p
   have e := hs.val _ _ hp
   by_cases h0 : s = 0
   ·simp only [h0]; decide
   ·show zbo s
    rw [e]
    exact h k ((hm k).2 (zie (by omega)))
  ·intro h u hu
   obtain ⟨x, x1, x2, _, x3⟩ := (hm u).1 hu
   obtain ⟨s, h1⟩ := hs.has x x1 x2
   rw [x3] at h1
   have := h _ h1
   rw [hs.val _ _ h1] at this
   exact this
structure ValidR (r : List (Int × Int)) : Prop where
 len : r.length ≤ 200
 asc : zlX r
 term : ∀ x ∈ r, 0 < x.2 ∧ x.2 ≤ 10000000000000 ∧ x.1 ≠ 0 ∧ zbo x.1 ∧ zbR x.2.toNat ≤ 1
theorem ValidR.un {r : List (Int × Int)} (h : ValidR r) {x : Int × Int} (hx : x ∈ r) : zbR x.2.toNat = 1 ∧ zbs x.2.toNat = x.2.toNat := by
 obtain ⟨h1, _, _, _, h5⟩ := h.term x hx
 exact zkt (by omega) h5
theorem zhy : ∀ {r : List (Int × Int)}, zlX r → (∀ x ∈ r, 0 < x.2 ∧ zbR x.2.toNat = 1 ∧ zbs x.2.toNat = x.2.toNat) → ∀ x ∈ r, cf x.2.toNat r = x.1
 | [], _, _, x, h => by simp at h
 | y :: r, hA, hu, x, hx => by
   obtain ⟨a1, a2⟩ := List.pairwise_cons.1 hA
   obtain ⟨y0, y1, y2⟩ := hu y (.head _)
   rw [zcl]
   rcases List.mem_cons.1 hx with rfl | hx
   ·rw [zhx (fun z hz hz0 he => ?_)]
    ·unfold cfT
     rw [if_pos ⟨y0, y2⟩, y1]
     omega
    ·have := a1 z hz
     rw [(hu z (.tail _ hz)).2.2] at he
     omega
   ·have hlt := a1 x hx
    rw [zhy a2 (fun z hz => hu z (.tail _ hz)) x hx]
    unfold cfT
    rw [if_neg, Int.zero_add]
    rintro ⟨_, h⟩
    rw [y2] at h
    omega
theorem ValidR.rad {r : List (Int × Int)} (h : ValidR r) : zol (fun u => cf u r) r := by
 have hu : ∀ x ∈ r, 0 < x.2 ∧ zbR x.2.toNat = 1 ∧ zbs x.2.toNat = x.2.toNat := fun x hx => ⟨(h.term x hx).1, h.un hx⟩
 refine ⟨h.asc, fun x => ⟨fun hx => ?_, ?_⟩⟩
 ·have := h.term x hx
  exact ⟨x.2.toNat, by omega, zhy h.asc hu x hx, this.2.2.1⟩
 ·rintro ⟨k, h1, h2, h3⟩
  obtain ⟨y, y1, y2, y3, y4⟩ := zie (u := k) (l := r) (by omega)
  rw [(hu y y1).2.2] at y4
  have h5 := zhy h.asc hu y y1
  rw [y4] at h5
  have e : x = y := by
   cases x; cases y
   simp only at *
   congr 1
   ·omega
   ·omega
  rw [e]; exact y1
theorem zif (u : Nat) (z : Int) : ∀ E : List (Nat × Int), (zdG u z E).length ≤ E.length + 1
 | [] => by simp [zdG]
 | x :: r => by
   have := zif u z r
   unfold zdG
   split
   ·simp
   ·split
    ·simp
    ·simp; omega
theorem zc6 (l : List (Int × Int)) : (zbY l).length ≤ l.length := by
 suffices h : ∀ (r : List (Int × Int)) (E : List (Nat × Int)), (r.foldl zfP E).length ≤ E.length + r.length by
  simpa [zbY] using h l []
 intro r
 induction r with
 | nil => intro E; simp
 | cons x r ih =>
   intro E
   have h1 := ih (zfP E x)
   have h2 : (zfP E x).length ≤ E.length + 1 := by
    unfold zfP
    split
    ·exact zif _ _ _
    ·omega
   simp only [List.foldl_cons, List.length_cons]
   omega
theorem zgK (l : List (Int × Int)) : (zaJ l).length ≤ l.length := Nat.le_trans (zdN _) (zc6 l)
theorem zjg {l : List (Int × Int)} (h1 : l.length ≤ 200) (h2 : ∀ x ∈ l, okT x) (h3 : ∀ u, zbo (cf u l)) : zal l = 0 := by
 have := zgK l
 unfold zal
 rw [if_neg (by omega), if_pos h2, if_pos, if_neg (by omega)]
 intro p hp
 have := (zlW l).val p.1 p.2 hp
 rw [this]
 exact h3 _
theorem zfh {l : List (Int × Int)} (h : zal l = 0) : ValidR (zaJ l) := by
 unfold zal at h
 split at h
 ·omega
 split at h
 ·rename_i h2
  split at h
  ·rename_i h3
   split at h
   ·omega
   rename_i h4
   refine ⟨by omega, (zc5 l).asc, fun x hx => ?_⟩
   obtain ⟨k, hk, hk0, hk1⟩ := zfQ.1 hx
   obtain ⟨y, y1, y2, y3⟩ := (zlW l).key _ _ hk
   have hy := h2 y y1
   have hp := zct (n := y.2.toNat) (by omega)
   have hl := zb6 (n := y.2.toNat) (by omega)
   have ha := zje (n := y.2.toNat) (by omega)
   rw [y3] at hp hl ha
   obtain ⟨hy1, hy2, _⟩ := hy
   have e : x.2.toNat = k := by rw [hk1]; exact Int.toNat_natCast k
   exact ⟨by omega, by omega, hk0, h3 _ hk, by rw [e, ha.1]; exact Nat.le_refl 1⟩
  ·omega
 ·omega
theorem zc7 {l : List (Int × Int)} (h : zal l = 0) : zdq l = zaJ l := by unfold zdq; rw [if_pos h]
def zbI (r : List (Int × Int)) (n : Int) : List (Int × Int) := r.filterMap fun x => if x.1 * n = 0 then none else some (x.1 * n, x.2)
def zdO (r : List (Int × Int)) (n : Int) : Int := if ∀ x ∈ r, zbo (x.1 * n) then 0 else 6
theorem zhz (r : List (Int × Int)) (x : Int × Int) (n : Int) : zbI (r ++ [x]) n = zbI r n ++ (if x.1 * n = 0 then [] else [(x.1 * n, x.2)]) := by
 unfold zbI
 rw [List.filterMap_append]
 congr 1
 by_cases h : x.1 * n = 0
 ·simp [h]
 ·simp [h]
theorem zjh (r : List (Int × Int)) (n : Int) : (zbI r n).length ≤ r.length := List.length_filterMap_le _ _
def Bnd (M : Int) (r : List (Int × Int)) : Prop := ∀ u, -M ≤ cf u r ∧ cf u r ≤ M
theorem Bnd.make {M : Int} {l : List (Int × Int)} (h : Bnd M l) (he : zal l = 0) : Bnd M (zaJ l) := fun u => by
 have h1 := (zfh he).rad
 have h2 := zc5 l
 have h3 : cf u (zaJ l) = cf u l := by
  by_cases hz : cf u l = 0
  ·by_cases hy : cf u (zaJ l) = 0
   ·omega
   ·obtain ⟨k, k1, k2, k3⟩ := (h2.mem (cf u (zaJ l), (u : Int))).1 ((h1.mem _).2 ⟨u, rfl, rfl, hy⟩)
    obtain rfl : u = k := by simp only at k1; omega
    simp only at k2; omega
  ·obtain ⟨k, k1, k2, k3⟩ := (h1.mem (cf u l, (u : Int))).1 ((h2.mem _).2 ⟨u, rfl, rfl, hz⟩)
   obtain rfl : u = k := by simp only at k1; omega
   exact k2
 rw [h3]
 exact h u
theorem zek {a n M N : Int} (h1 : -M ≤ a) (h2 : a ≤ M) (h3 : -N ≤ n) (h4 : n ≤ N) : -(M * N) ≤ a * n ∧ a * n ≤ M * N := by
 have hM : 0 ≤ M := by omega
 have hN : 0 ≤ N := by omega
 have h5 : a.natAbs ≤ M.toNat := by omega
 have h6 : n.natAbs ≤ N.toNat := by omega
 have h7 := Nat.mul_le_mul h5 h6
 rw [← Int.natAbs_mul] at h7
 have h8 : ((M.toNat * N.toNat : Nat) : Int) = M * N := by
  rw [Int.natCast_mul, Int.toNat_of_nonneg hM, Int.toNat_of_nonneg hN]
 omega
theorem zgL (u : Nat) : ∀ l : List (Int × Int), (∀ x ∈ l, -99 ≤ x.1 ∧ x.1 ≤ 99 ∧ 0 ≤ x.2 ∧ x.2 < 300) → -(29700 * (l.length : Int)) ≤ cf u l ∧ cf u l ≤ 29700 * (l.length : Int)
 | [], _ => by simp [zfg]
 | x :: r, h => by
   have ih := zgL u r (fun y hy => h y (.tail _ hy))
   obtain ⟨h1, h2, h3, h4⟩ := h x (.head _)
   have h5 : -29700 ≤ cfT u x ∧ cfT u x ≤ 29700 := by
    unfold cfT
    split
    ·rename_i hx
     have := (zb6 (n := x.2.toNat) (by omega)).1
     exact zek (M := 99) (N := 300) (by omega) h2 (by omega) (by omega)
    ·omega
   rw [zcl, List.length_cons]
   omega
theorem zfi {l : List (Int × Int)} (hl : l.length ≤ 6) (h : ∀ x ∈ l, -99 ≤ x.1 ∧ x.1 ≤ 99 ∧ 0 ≤ x.2 ∧ x.2 < 300) : zal l = 0 ∧ ValidR (zaJ l) ∧ (zaJ l).length ≤ 6 ∧ Bnd 200000 (zaJ l) := by
 have hB : Bnd 200000 l := fun u => by
  have := zgL u l h
  omega
 have e := zjg (l := l) (by omega) (fun x hx => by obtain ⟨h1, h2, h3, h4⟩ := h x hx; exact ⟨h3, by omega, by omega, by omega⟩) (fun u => by have := hB u; exact ⟨by omega, by omega⟩)
 exact ⟨e, zfh e, Nat.le_trans (zgK l) hl, hB.make e⟩
end Go.Proofs.YtpmbglhbcjbkcaaGreat
