/- Several texts in one: RefP, RefQ. -/
import Derived.Test.YtegejfcfoanaoaaJ20
import Derived.Test.YtegejfcfoanaoaaJ11

/- The reference's numbers: In. -/
namespace Go.Proofs.Ytegejfcfoanaoaa
open Go.RowKit

/-- 2 to the power 512, in digits. -/
def whole17 : List Int := [0, 0, 0, 0, 0, 0, 0, 0, 0, 0, 0, 0, 0, 0, 0, 0, 1]
theorem whole17_val : val B32 whole17 = P512 := by decide +kernel
theorem whole17_inr : InR B32 whole17 := by
  intro y hy
  simp [whole17] at hy
  unfold B32
  omega

end Go.Proofs.Ytegejfcfoanaoaa

/- The reference's numbers: Out. -/
namespace Go.Proofs.Ytegejfcfoanaoaa
open Go.RowKit

/-- 2 to the power 511, in digits. -/
def limit16 : List Int := [0, 0, 0, 0, 0, 0, 0, 0, 0, 0, 0, 0, 0, 0, 0, 2147483648]
theorem limit16_val : val B32 limit16 = P511 := by decide +kernel
theorem limit16_inr : InR B32 limit16 := by
  intro y hy
  simp [limit16] at hy
  unfold B32
  omega
theorem limit16_nz : Nz limit16 := by simp [Nz, limit16]
theorem B32_16 : B32 ^ 16 = P512 := by decide +kernel

/-- After k digits: the words so far. -/
def OutInv (ds : List Int) (k : Nat) (os : List Int) : Prop :=
  os.length = 8 ∧ InR W64 os ∧ val W64 os = val B32 (ds.take k) ∧ (∀ j, (k + 1) / 2 ≤ j → os.getD j 0 = 0) ∧ (k % 2 = 1 → os.getD (k / 2) 0 < 4294967296)
theorem OutInv.start (ds : List Int) : OutInv ds 0 (List.replicate 8 0) := by
  refine ⟨rfl, InR.zeros W64_pos _, by rw [val_zeros]; rfl, fun j _ => ?_, fun h => by omega⟩
  rw [List.getD_eq_getElem?_getD, List.getElem?_replicate]
  split <;> rfl
theorem B32_even (q : Nat) : B32 ^ (2 * q) = W64 ^ q := by
  rw [Int.pow_mul]; congr 1
theorem OutInv.even {ds os : List Int} {q : Nat} {d : Int} (h : OutInv ds (2 * q) os) (hq : q < 8) (hd : ds.getD (2 * q) 0 = d) (rd : 0 ≤ d ∧ d < 4294967296) :
    os[q]? = some 0 ∧ OutInv ds (2 * q + 1) (os.set q (0 + d)) := by
  obtain ⟨hl, hr, hv, hz, _⟩ := h
  have hoz := hz q (by omega)
  have ho : os[q]? = some 0 := by
    rw [List.getD_eq_getElem?_getD, List.getElem?_eq_getElem (by omega)] at hoz
    rw [List.getElem?_eq_getElem (by omega)]
    simpa using hoz
  refine ⟨ho, by simpa using hl, hr.set q (by unfold W64; omega), ?_, fun j hj => ?_, fun _ => ?_⟩
  · rw [val_set _ _ _ _ (by omega), hoz, hv, val_take_succ, hd, B32_even]
    congr 2; omega
  · rw [List.getD_eq_getElem?_getD, List.getElem?_set_ne (by omega), ← List.getD_eq_getElem?_getD]
    exact hz j (by omega)
  · rw [show (2 * q + 1) / 2 = q by omega, List.getD_eq_getElem?_getD, List.getElem?_set_self (by omega)]
    simp; omega
theorem OutInv.odd {ds os : List Int} {q : Nat} {d o : Int} (h : OutInv ds (2 * q + 1) os) (hq : q < 8) (hd : ds.getD (2 * q + 1) 0 = d) (rd : 0 ≤ d ∧ d < 4294967296) (ho : os[q]? = some o) :
    (0 ≤ o ∧ o < 4294967296) ∧ OutInv ds (2 * q + 2) (os.set q (o + d * 4294967296)) := by
  obtain ⟨hl, hr, hv, hz, hlt⟩ := h
  have hgo : os.getD q 0 = o := by rw [List.getD_eq_getElem?_getD, ho]; rfl
  have h1 := hlt (by omega)
  rw [show (2 * q + 1) / 2 = q by omega, hgo] at h1
  have h0 := (hr.at ho).1
  refine ⟨⟨h0, h1⟩, by simpa using hl, hr.set q (by unfold W64; omega), ?_, fun j hj => ?_, fun h => by omega⟩
  · rw [val_set _ _ _ _ (by omega), hgo, hv, val_take_succ B32 ds (2 * q + 1), hd, pw_succ, B32_even]
    have : B32 = 4294967296 := rfl
    rw [this]
    generalize W64 ^ q = p
    grind
  · rw [List.getD_eq_getElem?_getD, List.getElem?_set_ne (by omega), ← List.getD_eq_getElem?_getD]
    exact hz j (by omega)
theorem OutInv.done {ds os : List Int} {n : Nat} (h : OutInv ds n os) (hn : ds.length ≤ n) : ∃ u : W8, u.ok ∧ u.list = os ∧ u.mag = val B32 ds := by
  obtain ⟨hl, hr, hv, _, _⟩ := h
  rw [List.take_of_length_le hn] at hv
  have e : (W8.ofList os).list = os := by rw [W8.ofList_list (by omega), hl]; simp
  exact ⟨W8.ofList os, W8.ofList_ok (by omega) hr, e, by rw [W8.ofList_mag (by omega), hv]⟩
/-- No more than 16 digits. -/
theorem dig_len {ds : List Int} (hr : InR B32 ds) (hz : Nz ds) (h : val B32 ds < P512) : ds.length ≤ 16 := by
  rcases Nat.lt_or_ge 16 ds.length with hlt | hge
  · have h1 := val_ge B32_pos hr hz (by intro e; rw [e] at hlt; simp at hlt)
    have h2 : B32 ^ 16 ≤ B32 ^ (ds.length - 1) := pw_le B32_pos (by omega)
    rw [B32_16] at h2
    omega
  · exact hge

theorem toldPost_is {w w' : World} {z Z : Int} {u : W8} (h0 : -P511 ≤ z) (h1 : z < P511) (hu : u.ok) (hm : u.mag = Z) (hZ : Z = z % P512) (hL : Lat w w') : ToldPost w z (.returned (.tuple #[.agg #[.int .u64 u.a0, .int .u64 u.a1, .int .u64 u.a2, .int .u64 u.a3, .int .u64 u.a4, .int .u64 u.a5, .int .u64 u.a6, .int .u64 u.a7], .int .i64 0])) w' :=
  ⟨u, 0, rfl, .inl ⟨h0, h1, W8.mag_inj hu (W8.of_ok z) (by rw [hm, hZ, W8.of_mag]), rfl⟩, hL⟩
end Go.Proofs.Ytegejfcfoanaoaa
