/- Several texts in one: QcD, QcX, QcI, QcS. -/
import Derived.Test.YteocdndanehpnaaGreatH26
import Derived.Test.YteocdndanehpnaaGreatH31
namespace Go.Proofs.YteocdndanehpnaaGreat
open Go.RowKit
set_option linter.unusedSimpArgs false
theorem qClSize : (Tryz.prog.info? 101).map (·.size) = some 20 := by kernel_rfl
def qClIdxPost (w : World) (p : List Value → Bool) (xs : List (List Value)) (e : Ending) (w' : World) : Prop :=
 ∃ r : Int, e = .returned (.int .i64 r) ∧ ((r = -1 ∧ ∀ x ∈ xs, p x = false) ∨ ∃ (k : Nat) (x : List Value), r = (k : Int) ∧ xs[k]? = some x ∧ p x = true ∧ ∀ y ∈ xs.take k, p y = false) ∧ Lat w w'
set_option maxRecDepth 100000 in
set_option maxHeartbeats 2000000 in
theorem qClIdx_any (p : List Value → Bool) (g n c : Nat) (xs : List (List Value)) (w : World) (hr : RowB w g 101 20 xs) (hn : xs.length = n) (hn1 : n ≤ 1000000)
  (HCL : ∀ x ∈ xs, ∀ w', Calls Tryz.prog 68 #[.agg x.toArray] w' (fun e w'' => e = .returned (.bool (p x)) ∧ Lat w' w'')) :
  Calls Tryz.prog 66 #[.slice (some ⟨g, 0, none⟩) n c, .func (.func 68) #[] #[]] w (qClIdxPost w p xs) := by
 have HI := Lib.hid qClSize
 have HC := Lib.hid HCL
 clear HCL
 go_enter Tryz.func66, Tryz.ntmps66
 go_wp2
 go_loopw [8] (fun i wr => ∃ k : Nat, k ≤ n ∧ i = .int .i64 k ∧ Hid (∀ y ∈ xs.take k, p y = false) ∧ Lat w wr) (fun i _ => n - (intOf i).toNat)
 case atStart => exact ⟨0, Nat.zero_le _, rfl, fun y hy => by simp at hy, Lat.refl w⟩
 case round =>
  rename_i wr
  obtain ⟨k, hk, rfl, hno, hlr⟩ := hrel
  by_cases hlt : k < n
  ·have hkl : k < xs.length := by omega
   obtain ⟨x, hx⟩ : ∃ x, xs[k]? = some x := ⟨_, List.getElem?_eq_getElem hkl⟩
   have hmem := List.mem_of_getElem? hx
   have hxl : (Tryz.prog.info? 101).map (·.size) = some x.length := by rw [(hr.1 x hmem).1]; exact HI.out
   have hrange := (hr.later hlr).range hx
   have HX := Lib.hid hx
   have HT : Hid (∀ b, p x = b → b = false → ∀ y ∈ xs.take (k + 1), p y = false) := by
    intro b hb hf y hy
    obtain ⟨_, e⟩ := List.getElem?_eq_some_iff.1 hx
    rw [List.take_succ_eq_append_getElem hkl, List.mem_append, List.mem_singleton, e] at hy
    rcases hy with hy | rfl
    ·exact hno.out y hy
    ·rw [hb, hf]
   have HCx := HC.out x hmem
   have hgl := hr.later hlr |>.lt
   clear hx hmem
   go_wp2_with (refine wpList_load_mid (by rfl) 101 (.tmp 14) (by rfl) g (k * 20) (by rfl) x _ hrange Tryz.underlying101 rfl hxl ?_)
   refine (HCx wr).mono ?_
   rintro e w2 ⟨rfl, l2⟩
   cases hp : p x with
   | true =>
     have HP := Lib.hid hp
     clear hp
     go_wp2
     go_ret
     exact ⟨k, rfl, .inr ⟨k, x, rfl, HX.out, HP.out, hno.out⟩, hlr.trans l2⟩
   | false =>
     have HP := Lib.hid (HT.out _ hp rfl)
     clear hp
     go_wp2
     go_roundw
     case rel => exact ⟨k + 1, by omega, by go_num, HP.out, hlr.trans l2⟩
     case measure => simp [intOf]; omega
  ·obtain rfl : k = n := by omega
   have HA : Hid (∀ y ∈ xs, p y = false) := by
    have := hno.out
    rwa [List.take_of_length_le (by omega)] at this
   go_wp2
   go_ret
   exact ⟨-1, rfl, .inl ⟨rfl, HA.out⟩, hlr⟩
def qClDelPost (w : World) (g c : Nat) (p : List Value → Bool) (xs : List (List Value)) (e : Ending) (w' : World) : Prop :=
 e = .returned (.slice (some ⟨g, 0, none⟩) (xs.filter fun x => !p x).length c) ∧ RowB w' g 101 20 (xs.filter fun x => !p x) ∧ LatP (· = g) w w'
theorem qClZero (w : World) : (zeroValue 101).run Tryz.prog w = .ok (.agg #[.int .i64 0, .int .i64 0, .int .i64 0, .int .i64 0, .int .u64 0, .int .u64 0, .int .u64 0, .int .u64 0, .int .u64 0, .int .u64 0, .int .u64 0, .int .u64 0, .int .u64 0, .int .u64 0, .int .u64 0, .int .u64 0, .int .u64 0, .int .u64 0, .int .u64 0, .int .u64 0]) w := by go_simp
theorem qClZeroL (n : Nat) : (Builtin.zeroCells ((.agg #[.int .i64 0, .int .i64 0, .int .i64 0, .int .i64 0, .int .u64 0, .int .u64 0, .int .u64 0, .int .u64 0, .int .u64 0, .int .u64 0, .int .u64 0, .int .u64 0, .int .u64 0, .int .u64 0, .int .u64 0, .int .u64 0, .int .u64 0, .int .u64 0, .int .u64 0, .int .u64 0] : Value).cells) n).toList.length = n * 20 ∧ ∀ v ∈ (Builtin.zeroCells ((.agg #[.int .i64 0, .int .i64 0, .int .i64 0, .int .i64 0, .int .u64 0, .int .u64 0, .int .u64 0, .int .u64 0, .int .u64 0, .int .u64 0, .int .u64 0, .int .u64 0, .int .u64 0, .int .u64 0, .int .u64 0, .int .u64 0, .int .u64 0, .int .u64 0, .int .u64 0, .int .u64 0] : Value).cells) n).toList, v.oneCell' = true :=
 ⟨by rw [zeroCells_len]; rfl, zeroCells_one _ (by simp [Value.cells, Value.oneCell']) (by simp [Value.cells]) n⟩
set_option maxRecDepth 100000 in
set_option maxHeartbeats 4000000 in
theorem qClDel_any (p : List Value → Bool) (g n c : Nat) (xs : List (List Value)) (w : World) (hr : RowB w g 101 20 xs) (hn : xs.length = n) (hn1 : n ≤ 1000000) (hc : n ≤ c)
  (HCL : ∀ x ∈ xs, ∀ w', Calls Tryz.prog 68 #[.agg x.toArray] w' (fun e w'' => e = .returned (.bool (p x)) ∧ Lat w' w'')) :
  Calls Tryz.prog 67 #[.slice (some ⟨g, 0, none⟩) n c, .func (.func 68) #[] #[]] w (qClDelPost w g c p xs) := by
 have HIX := qClIdx_any p g n c xs w hr hn hn1 HCL
 have HI := Lib.hid qClSize
 have HC := Lib.hid HCL
 clear HCL
 go_enter Tryz.func67, Tryz.ntmps67
 go_wp2_with fail
 refine HIX.mono ?_
 rintro e w1 ⟨r, rfl, hcase, l1⟩
 have R1 := hr.later l1
 rcases hcase with ⟨rfl, hall⟩ | ⟨k0, x0, rfl, hx0, hp0, hbefore⟩
 ·have hf : (xs.filter fun x => !p x) = xs := by
   rw [List.filter_eq_self]
   intro x hx
   rw [hall x hx]; rfl
  have HF := Lib.hid hf
  clear hf hall
  go_wp2
  go_ret
  refine ⟨?_, ?_, l1.p _⟩
  ·rw [HF.out, hn]; try rfl
  ·rw [HF.out]; exact R1
 ·have HD := Lib.hid (DelInv.start hx0 hp0 hbefore)
  have hk0 : k0 < n := by have := (List.getElem?_eq_some_iff.1 hx0).1; omega
  have hne1 : ((k0 : Int) == -1) = false := beq_eq_false_iff_ne.2 (by omega)
  clear hx0 hp0 hbefore HIX
  go_wp2
  go_loopw [5, 6] (fun s5 s6 wr => ∃ (i j : Nat) (ph : List (List Value)), s5 = .int .i64 i ∧ s6 = .int .i64 j ∧ Hid (DelInv p xs i j ph) ∧ RowB wr g 101 20 ph ∧ LatP (· = g) w wr) (fun _ s6 _ => n - (intOf s6).toNat)
  case atStart => exact ⟨k0, k0 + 1, xs, rfl, by go_num, HD.out, R1, l1.p _⟩
  case round =>
   rename_i wr
   obtain ⟨i, j, ph, rfl, rfl, hD, hR, hlr⟩ := hrel
   have hij := hD.out.lt
   have hjn := hD.out.le
   have hphl := hD.out.len
   by_cases hlt : j < n
   ·have hkl : j < xs.length := by omega
    obtain ⟨x, hx⟩ : ∃ x, xs[j]? = some x := ⟨_, List.getElem?_eq_getElem hkl⟩
    have hmem := List.mem_of_getElem? hx
    have hxm := (hr.1 x hmem)
    have hxl : (Tryz.prog.info? 101).map (·.size) = some x.length := by rw [hxm.1]; exact HI.out
    have hxa : (Tryz.prog.info? 101).map (·.size) = some x.toArray.size := by rw [HI.out]; simp [hxm.1]
    have hphx : ph[j]? = some x := hD.out.cur hx
    have hrange := hR.range hphx
    have HX := Lib.hid hx
    have HXM := Lib.hid hxm
    have HXA := Lib.hid hxa
    have hx1 : x.toArray.all (·.oneCell') = true := by simpa [Array.all_eq_true'] using hxm.2
    have HX1 := Lib.hid hx1
    have HCx := HC.out x hmem
    have hK0 := Blk.new wr 101 ((.agg #[.int .i64 0, .int .i64 0, .int .i64 0, .int .i64 0, .int .u64 0, .int .u64 0, .int .u64 0, .int .u64 0, .int .u64 0, .int .u64 0, .int .u64 0, .int .u64 0, .int .u64 0, .int .u64 0, .int .u64 0, .int .u64 0, .int .u64 0, .int .u64 0, .int .u64 0, .int .u64 0] : Value).cells)
    have hz : ((.agg #[.int .i64 0, .int .i64 0, .int .i64 0, .int .i64 0, .int .u64 0, .int .u64 0, .int .u64 0, .int .u64 0, .int .u64 0, .int .u64 0, .int .u64 0, .int .u64 0, .int .u64 0, .int .u64 0, .int .u64 0, .int .u64 0, .int .u64 0, .int .u64 0, .int .u64 0, .int .u64 0] : Value).cells).size = x.toArray.size := by simp [hxm.1, Value.cells]
    have hgl := hR.lt
    have hilt : i < ph.length := by omega
    clear hx hmem hxm hxa hphx hx1 hkl
    go_wp2_with (first
     | (refine wpList_load_mid (by rfl) 101 (.tmp 24) (by rfl) g (j * 20) (by rfl) x _ hrange Tryz.underlying101 rfl hxl ?_)
     | (refine wpList_put rfl 101 (.tmp 7) (.tmp 25) (by rfl) (by rfl) wr.heap.size (by rfl) x.toArray (by rfl) hK0 hz HXA.out HX1.out ?_; intro w2 hput; have B2 := hput.blk; have l2 := hput.lat wr (Lat.alloc _ _) (Nat.le_refl _); clear hput)
     | (refine wpList_get (by rfl) 101 (.tmp 7) (by rfl) wr.heap.size (by rfl) B2 _ Tryz.underlying101 rfl HXA.out ?_))
    refine (HCx w2).mono ?_
    rintro e w3 ⟨rfl, l3⟩
    have B3 := B2.later l3
    have R3 := hR.later (l2.trans l3)
    have LP3 := hlr.trans ((l2.trans l3).p _)
    clear hrange hK0 B2
    cases hp : p x with
    | true =>
      have HP := Lib.hid (hD.out.skip HX.out hp)
      clear hp
      go_wp2
      go_roundw
      case rel => exact ⟨i, j + 1, ph, rfl, by go_num, HP.out, R3, LP3⟩
      case measure => simp [intOf]; omega
    | false =>
      have HP := Lib.hid (hD.out.keep HX.out hp)
      clear hp
      go_wp2_with (first
       | (refine wpList_get (by rfl) 101 (.tmp 7) (by rfl) wr.heap.size (by rfl) B3 _ Tryz.underlying101 rfl HXA.out ?_)
       | (refine wpList_setM rfl 101 (.tmp 33) (.tmp 32) (by rfl) (by rfl) R3 hilt (o := i * 20) rfl (by rfl) x (by rfl) HXM.out.1 HI.out HXM.out.2 ?_; intro w4 R4 l4 hs4))
      go_roundw
      case rel => exact ⟨i + 1, j + 1, ph.set i x, by go_num, by go_num, HP.out, R4, LP3.trans l4⟩
      case measure => simp [intOf]; omega
   ·obtain rfl : j = n := by omega
    have HE := Lib.hid (hD.out.fin hn)
    have hLz := qClZeroL (j - i)
    have hcl : ∀ ty, (Builtin.clear_ #[91] ty #[.slice (some ⟨g, i * 20, none⟩) (j - i) (c - i)]).run Tryz.prog wr = .ok (.tuple #[]) (wr.setCells g (i * 20) (Builtin.zeroCells ((.agg #[.int .i64 0, .int .i64 0, .int .i64 0, .int .i64 0, .int .u64 0, .int .u64 0, .int .u64 0, .int .u64 0, .int .u64 0, .int .u64 0, .int .u64 0, .int .u64 0, .int .u64 0, .int .u64 0, .int .u64 0, .int .u64 0, .int .u64 0, .int .u64 0, .int .u64 0, .int .u64 0] : Value).cells) (j - i)).toList) := fun ty =>
     run_clearM wr 91 101 ty (.agg #[.int .i64 0, .int .i64 0, .int .i64 0, .int .i64 0, .int .u64 0, .int .u64 0, .int .u64 0, .int .u64 0, .int .u64 0, .int .u64 0, .int .u64 0, .int .u64 0, .int .u64 0, .int .u64 0, .int .u64 0, .int .u64 0, .int .u64 0, .int .u64 0, .int .u64 0, .int .u64 0]) Tryz.underlying91 qClZero g (i * 20) _ _ (by omega) _ rfl hLz.2 (hR.there (by rw [hLz.1, hphl, hn, ← Nat.add_mul]; exact Nat.mul_le_mul_right _ (by omega)))
    have RC := Lib.hid (hR.cut (i := i) (L := (Builtin.zeroCells ((.agg #[.int .i64 0, .int .i64 0, .int .i64 0, .int .i64 0, .int .u64 0, .int .u64 0, .int .u64 0, .int .u64 0, .int .u64 0, .int .u64 0, .int .u64 0, .int .u64 0, .int .u64 0, .int .u64 0, .int .u64 0, .int .u64 0, .int .u64 0, .int .u64 0, .int .u64 0, .int .u64 0] : Value).cells) (j - i)).toList) (by rw [hLz.1, hphl, hn, ← Nat.add_mul]; exact Nat.mul_le_mul_right _ (by omega)))
    have LC := Lib.hid (hlr.trans (LatP.setCells (g := g) (Builtin.zeroCells ((.agg #[.int .i64 0, .int .i64 0, .int .i64 0, .int .i64 0, .int .u64 0, .int .u64 0, .int .u64 0, .int .u64 0, .int .u64 0, .int .u64 0, .int .u64 0, .int .u64 0, .int .u64 0, .int .u64 0, .int .u64 0, .int .u64 0, .int .u64 0, .int .u64 0, .int .u64 0, .int .u64 0] : Value).cells) (j - i)).toList wr (i * 20)))
    obtain ⟨WZ, hWZ⟩ : ∃ WZ, wr.setCells g (i * 20) (Builtin.zeroCells ((.agg #[.int .i64 0, .int .i64 0, .int .i64 0, .int .i64 0, .int .u64 0, .int .u64 0, .int .u64 0, .int .u64 0, .int .u64 0, .int .u64 0, .int .u64 0, .int .u64 0, .int .u64 0, .int .u64 0, .int .u64 0, .int .u64 0, .int .u64 0, .int .u64 0, .int .u64 0, .int .u64 0] : Value).cells) (j - i)).toList = WZ := ⟨_, rfl⟩
    rw [hWZ] at hcl RC LC
    clear hWZ hLz hR hlr
    have hic : i ≤ c := by omega
    go_wp2
    go_ret
    have h1 := HE.out
    refine ⟨?_, ?_, LC.out⟩
    ·rw [h1.1]; rfl
    ·rw [← h1.2]; exact RC.out
end Go.Proofs.YteocdndanehpnaaGreat
namespace Go.Proofs.YteocdndanehpnaaGreat
open Go.RowKit
set_option linter.unusedSimpArgs false
set_option maxRecDepth 100000 in
set_option maxHeartbeats 2000000 in
theorem qClIdx3_any (p : List Value → Bool) (q1 q2 : Addr) (g n c : Nat) (xs : List (List Value)) (w : World) (hr : RowB w g 101 20 xs) (hn : xs.length = n) (hn1 : n ≤ 1000000)
  (HCL : ∀ x ∈ xs, ∀ w', Lat w w' → Calls Tryz.prog 72 #[.agg x.toArray, .pointer (some q1), .pointer (some q2)] w' (fun e w'' => e = .returned (.bool (p x)) ∧ Lat w' w'')) :
  Calls Tryz.prog 66 #[.slice (some ⟨g, 0, none⟩) n c, .func (.func 72) #[] #[.pointer (some q1), .pointer (some q2)]] w (qClIdxPost w p xs) := by
 have HI := Lib.hid qClSize
 have HC := Lib.hid HCL
 clear HCL
 go_enter Tryz.func66, Tryz.ntmps66
 go_wp2
 go_loopw [8] (fun i wr => ∃ k : Nat, k ≤ n ∧ i = .int .i64 k ∧ Hid (∀ y ∈ xs.take k, p y = false) ∧ Lat w wr) (fun i _ => n - (intOf i).toNat)
 case atStart => exact ⟨0, Nat.zero_le _, rfl, fun y hy => by simp at hy, Lat.refl w⟩
 case round =>
  rename_i wr
  obtain ⟨k, hk, rfl, hno, hlr⟩ := hrel
  by_cases hlt : k < n
  ·have hkl : k < xs.length := by omega
   obtain ⟨x, hx⟩ : ∃ x, xs[k]? = some x := ⟨_, List.getElem?_eq_getElem hkl⟩
   have hmem := List.mem_of_getElem? hx
   have hxl : (Tryz.prog.info? 101).map (·.size) = some x.length := by rw [(hr.1 x hmem).1]; exact HI.out
   have hrange := (hr.later hlr).range hx
   have HX := Lib.hid hx
   have HT : Hid (∀ b, p x = b → b = false → ∀ y ∈ xs.take (k + 1), p y = false) := by
    intro b hb hf y hy
    obtain ⟨_, e⟩ := List.getElem?_eq_some_iff.1 hx
    rw [List.take_succ_eq_append_getElem hkl, List.mem_append, List.mem_singleton, e] at hy
    rcases hy with hy | rfl
    ·exact hno.out y hy
    ·rw [hb, hf]
   have HCx := HC.out x hmem
   have hgl := hr.later hlr |>.lt
   clear hx hmem
   go_wp2_with (refine wpList_load_mid (by rfl) 101 (.tmp 14) (by rfl) g (k * 20) (by rfl) x _ hrange Tryz.underlying101 rfl hxl ?_)
   refine (HCx wr hlr).mono ?_
   rintro e w2 ⟨rfl, l2⟩
   cases hp : p x with
   | true =>
     have HP := Lib.hid hp
     clear hp
     go_wp2
     go_ret
     exact ⟨k, rfl, .inr ⟨k, x, rfl, HX.out, HP.out, hno.out⟩, hlr.trans l2⟩
   | false =>
     have HP := Lib.hid (HT.out _ hp rfl)
     clear hp
     go_wp2
     go_roundw
     case rel => exact ⟨k + 1, by omega, by go_num, HP.out, hlr.trans l2⟩
     case measure => simp [intOf]; omega
  ·obtain rfl : k = n := by omega
   have HA : Hid (∀ y ∈ xs, p y = false) := by
    have := hno.out
    rwa [List.take_of_length_le (by omega)] at this
   go_wp2
   go_ret
   exact ⟨-1, rfl, .inl ⟨rfl, HA.out⟩, hlr⟩
end Go.Proofs.YteocdndanehpnaaGreat
namespace Go.Proofs.YteocdndanehpnaaGreat
open Go.RowKit
set_option linter.unusedSimpArgs false
def qClSortPost (w : World) (g : Nat) (ys : List (List Value)) (e : Ending) (w' : World) : Prop := (∃ v, e = .returned v) ∧ RowB w' g 101 20 ys ∧ LatP (· = g) w w'
theorem qClSizeS : (Tryz.prog.info? 101).map (·.size) = some 20 := by kernel_rfl
set_option maxRecDepth 100000 in
set_option maxHeartbeats 8000000 in
theorem qClIns_any (cmp : List Value → List Value → Int) (g n c : Nat) (xs : List (List Value)) (a b : Nat) (hab : a ≤ b) (hbn : b ≤ n) (w : World) (hr : RowB w g 101 20 xs) (hn : xs.length = n) (hn1 : n ≤ 1000000)
  (HCMP : ∀ x ∈ xs, ∀ y ∈ xs, ∀ w', Calls Tryz.prog 70 #[.agg x.toArray, .agg y.toArray] w' (fun e w'' => e = .returned (.int .i64 (cmp x y)) ∧ Lat w' w'')) :
  Calls Tryz.prog 118 #[.slice (some ⟨g, 0, none⟩) n c, .int .i64 a, .int .i64 b, .func (.func 70) #[] #[]] w (qClSortPost w g (xs.take a ++ (sortR (fun x y => decide (cmp x y < 0)) ((xs.drop a).take (b - a)) ++ xs.drop b))) := by
 have HI := Lib.hid qClSizeS
 have HC := Lib.hid HCMP
 have HR0 := Lib.hid hr.1
 obtain ⟨lt, hlt⟩ : ∃ lt : List Value → List Value → Bool, (fun x y => decide (cmp x y < 0)) = lt := ⟨_, rfl⟩
 have HLT : Hid (∀ x y, lt x y = decide (cmp x y < 0)) := by intro x y; rw [← hlt]
 rw [hlt]
 clear HCMP hlt
 by_cases hba : a = b
 ·subst hba
  have e0 : xs.take a ++ (sortR lt ((xs.drop a).take (a - a)) ++ xs.drop a) = xs := by simp [sortR]
  rw [e0]
  clear e0
  go_enter Tryz.func118, Tryz.ntmps118
  go_wp2
  go_loopw [8, 9] (fun i j wr => i = .int .i64 (a + 1) ∧ wr = w) (fun _ _ _ => 0)
  case atStart => exact ⟨by go_num, rfl⟩
  case round =>
   obtain ⟨rfl, rfl⟩ := hrel
   go_wp2
   refine bodyPost_ret (results_none rfl _ _ _) rfl ?_
   exact ⟨⟨_, rfl⟩, hr, LatP.refl _ _⟩
 ·have hlt0 : a < b := by omega
  have hsplit0 : xs = xs.take a ++ (sortR lt ((xs.drop a).take (a + 1 - a)) ++ xs.drop (a + 1)) := by
   have hla : a < xs.length := by omega
   obtain ⟨h1, h2⟩ := block_next lt (Nat.le_refl a) (List.getElem?_eq_getElem hla)
   rw [h1, Nat.sub_self, List.take_zero]
   show xs = xs.take a ++ ([xs[a]] ++ xs.drop (a + 1))
   rw [show [xs[a]] ++ xs.drop (a + 1) = xs.drop a by rw [h2]; rfl, List.take_append_drop]
  have HS0 := Lib.hid hsplit0
  clear hsplit0
  go_enter Tryz.func118, Tryz.ntmps118
  go_wp2
  go_loopw [8] (fun i wr => ∃ k : Nat, a < k ∧ k ≤ b ∧ i = .int .i64 k ∧ RowB wr g 101 20 (xs.take a ++ (sortR lt ((xs.drop a).take (k - a)) ++ xs.drop k)) ∧ LatP (· = g) w wr) (fun i _ => b - (intOf i).toNat)
  case atStart => exact ⟨a + 1, by omega, by omega, by go_num, by rw [← HS0.out]; exact hr, LatP.refl _ _⟩
  case round =>
   obtain ⟨W1, rfl⟩ : ∃ W1, W1 = wr := ⟨wr, rfl⟩
   obtain ⟨k, hak, hkb, rfl, hR, hlr⟩ := hrel
   by_cases hkb' : k < b
   ·have hkl : k < xs.length := by omega
    obtain ⟨x, hx⟩ : ∃ x, xs[k]? = some x := ⟨_, List.getElem?_eq_getElem hkl⟩
    have hmx := List.mem_of_getElem? hx
    obtain ⟨A, hA⟩ : ∃ A, xs.take a = A := ⟨_, rfl⟩
    obtain ⟨S, hS⟩ : ∃ S, sortR lt ((xs.drop a).take (k - a)) = S := ⟨_, rfl⟩
    obtain ⟨R, hR'⟩ : ∃ R, xs.drop (k + 1) = R := ⟨_, rfl⟩
    obtain ⟨hn1', hn2⟩ := block_next lt (Nat.le_of_lt hak) hx
    have hAl : A.length = a := by rw [← hA, List.length_take]; omega
    have hSl : S.length = k - a := by rw [← hS, sortR_length, List.length_take, List.length_drop]; omega
    have hSm : ∀ y ∈ S, y ∈ xs := fun y hy => by rw [← hS, sortR_mem] at hy; exact List.mem_of_mem_drop (List.mem_of_mem_take hy)
    rw [hA, hS, hn2, hR', onWay_start, hSl] at hR
    have HN : Hid (sortR lt ((xs.drop a).take (k + 1 - a)) = insR lt S x) := by show _ = _; rw [hn1', hS]
    have HA := Lib.hid hA
    have HR' := Lib.hid hR'
    have HSm := Lib.hid hSm
    have HW0 : Hid (way lt x S (k - a)) := by show way _ _ _ _; rw [← hSl]; exact way_start lt x S
    clear hx hn1' hn2 hA hS hR' hSm
    have hxm := HR0.out x hmx
    go_wp2
    go_loopw [9] (fun j wr => ∃ q : Nat, q ≤ k - a ∧ j = .int .i64 (a + q : Nat) ∧ RowB wr g 101 20 (onWay A S R x q) ∧ Hid (way lt x S q) ∧ LatP (· = g) W1 wr) (fun j _ => (intOf j).toNat)
    case atStart => exact ⟨k - a, Nat.le_refl _, by rw [show a + (k - a) = k by omega], hR, HW0.out, LatP.refl _ _⟩
    case round =>
     rename_i wr
     obtain ⟨q, hqk, rfl, hRq, hway, hlq⟩ := hrel
     clear hR HW0
     cases q with
     | zero =>
       have hfin := way_stop (A := A) (R := R) hway.out (.inl rfl)
       rw [hfin] at hRq
       clear hfin hway
       simp only [Nat.add_zero]
       have L0 := Lat.drew wr
       go_upto_region 4 with (fail)
       refine wp_region_held_drew (S := fun w' => Lat wr w') (by kernel_rfl) L0 (fun hHeld => ?_)
       generalize wr.drew = V0 at L0 hHeld ⊢
       refine wpAnyH_take (i := 0) (v := .int .i64 a) rfl (by kernel_rfl) (by kernel_rfl) (by kernel_rfl) (fun _ _ _ h => h) (Or.inl ⟨by rfl, by intro w' hS; go_simp⟩) hHeld ?_
       simp only [Act.put, List.getElem_toArray, List.getElem_cons_succ, List.getElem_cons_zero, List.setIfInBounds_toArray, List.set_cons_zero, List.set_cons_succ]
       refine wpAnyH_take (i := 1) (v := .int .i64 a) rfl (by kernel_rfl) (by kernel_rfl) (by kernel_rfl) (fun _ _ _ h => h) (Or.inl ⟨by rfl, by intro w' hS; go_simp⟩) hHeld ?_
       simp only [Act.put, List.getElem_toArray, List.getElem_cons_succ, List.getElem_cons_zero, List.setIfInBounds_toArray, List.set_cons_zero, List.set_cons_succ]
       refine wpAnyH_take (i := 2) (v := .bool false) rfl (by kernel_rfl) (by kernel_rfl) (by kernel_rfl) (fun _ _ _ h => h) (Or.inl ⟨by rfl, by intro w' hS; go_simp⟩) hHeld ?_
       simp only [Act.put, List.getElem_toArray, List.getElem_cons_succ, List.getElem_cons_zero, List.setIfInBounds_toArray, List.set_cons_zero, List.set_cons_succ]
       refine wpAnyH_take (i := 3) (v := .bool false) rfl (by kernel_rfl) (by kernel_rfl) (by kernel_rfl) (fun _ _ _ h => h) (Or.inl ⟨by rfl, by intro w' hS; go_simp⟩) hHeld ?_
       simp only [Act.put, List.getElem_toArray, List.getElem_cons_succ, List.getElem_cons_zero, List.setIfInBounds_toArray, List.set_cons_zero, List.set_cons_succ]
       refine wpAnyH_skip 4 22 rfl (by kernel_rfl) (by kernel_rfl) (by kernel_rfl) (fun _ _ _ h => h) (by kernel_rfl) hHeld ?_
       simp only [Act.put, List.getElem_toArray, List.getElem_cons_succ, List.getElem_cons_zero, List.setIfInBounds_toArray, List.set_cons_zero, List.set_cons_succ]
       refine wpAnyH_skip 5 23 rfl (by kernel_rfl) (by kernel_rfl) (by kernel_rfl) (fun _ _ _ h => h) (by kernel_rfl) hHeld ?_
       simp only [Act.put, List.getElem_toArray, List.getElem_cons_succ, List.getElem_cons_zero, List.setIfInBounds_toArray, List.set_cons_zero, List.set_cons_succ]
       refine wpAnyH_skip 6 24 rfl (by kernel_rfl) (by kernel_rfl) (by kernel_rfl) (fun _ _ _ h => h) (by kernel_rfl) hHeld ?_
       simp only [Act.put, List.getElem_toArray, List.getElem_cons_succ, List.getElem_cons_zero, List.setIfInBounds_toArray, List.set_cons_zero, List.set_cons_succ]
       refine wpAnyH_skip 7 25 rfl (by kernel_rfl) (by kernel_rfl) (by kernel_rfl) (fun _ _ _ h => h) (by kernel_rfl) hHeld ?_
       simp only [Act.put, List.getElem_toArray, List.getElem_cons_succ, List.getElem_cons_zero, List.setIfInBounds_toArray, List.set_cons_zero, List.set_cons_succ]
       refine wpAnyH_skip 8 26 rfl (by kernel_rfl) (by kernel_rfl) (by kernel_rfl) (fun _ _ _ h => h) (by kernel_rfl) hHeld ?_
       simp only [Act.put, List.getElem_toArray, List.getElem_cons_succ, List.getElem_cons_zero, List.setIfInBounds_toArray, List.set_cons_zero, List.set_cons_succ]
       refine wpAnyH_skip 9 27 rfl (by kernel_rfl) (by kernel_rfl) (by kernel_rfl) (fun _ _ _ h => h) (by kernel_rfl) hHeld ?_
       simp only [Act.put, List.getElem_toArray, List.getElem_cons_succ, List.getElem_cons_zero, List.setIfInBounds_toArray, List.set_cons_zero, List.set_cons_succ]
       refine wpAnyH_skip 10 28 rfl (by kernel_rfl) (by kernel_rfl) (by kernel_rfl) (fun _ _ _ h => h) (by kernel_rfl) hHeld ?_
       simp only [Act.put, List.getElem_toArray, List.getElem_cons_succ, List.getElem_cons_zero, List.setIfInBounds_toArray, List.set_cons_zero, List.set_cons_succ]
       refine wpAnyH_skip 11 29 rfl (by kernel_rfl) (by kernel_rfl) (by kernel_rfl) (fun _ _ _ h => h) (by kernel_rfl) hHeld ?_
       simp only [Act.put, List.getElem_toArray, List.getElem_cons_succ, List.getElem_cons_zero, List.setIfInBounds_toArray, List.set_cons_zero, List.set_cons_succ]
       refine wpAnyH_skip 12 30 rfl (by kernel_rfl) (by kernel_rfl) (by kernel_rfl) (fun _ _ _ h => h) (by kernel_rfl) hHeld ?_
       simp only [Act.put, List.getElem_toArray, List.getElem_cons_succ, List.getElem_cons_zero, List.setIfInBounds_toArray, List.set_cons_zero, List.set_cons_succ]
       refine wpAnyH_skip 13 31 rfl (by kernel_rfl) (by kernel_rfl) (by kernel_rfl) (fun _ _ _ h => h) (by kernel_rfl) hHeld ?_
       simp only [Act.put, List.getElem_toArray, List.getElem_cons_succ, List.getElem_cons_zero, List.setIfInBounds_toArray, List.set_cons_zero, List.set_cons_succ]
       refine wpAnyH_skip 14 32 rfl (by kernel_rfl) (by kernel_rfl) (by kernel_rfl) (fun _ _ _ h => h) (by kernel_rfl) hHeld ?_
       simp only [Act.put, List.getElem_toArray, List.getElem_cons_succ, List.getElem_cons_zero, List.setIfInBounds_toArray, List.set_cons_zero, List.set_cons_succ]
       refine wpAnyH_skip 15 33 rfl (by kernel_rfl) (by kernel_rfl) (by kernel_rfl) (fun _ _ _ h => h) (by kernel_rfl) hHeld ?_
       simp only [Act.put, List.getElem_toArray, List.getElem_cons_succ, List.getElem_cons_zero, List.setIfInBounds_toArray, List.set_cons_zero, List.set_cons_succ]
       refine wpAnyH_take (i := 16) (v := .bool false) rfl (by kernel_rfl) (by kernel_rfl) (by kernel_rfl) (fun _ _ _ h => h) (Or.inl ⟨by rfl, by intro w' hS; go_simp⟩) hHeld ?_
       simp only [Act.put, List.getElem_toArray, List.getElem_cons_succ, List.getElem_cons_zero, List.setIfInBounds_toArray, List.set_cons_zero, List.set_cons_succ]
       refine wpAnyH_done (by kernel_rfl) ?_ _
       go_wp2
       refine ⟨⟨k + 1, Nat.lt_succ_of_lt hak, hkb', int_succ k, ?_, (hlr.trans hlq).trans (L0.p _)⟩, meas_up hkb'⟩
       rw [HN.out, HA.out, HR'.out]
       exact hRq.later L0
     | succ q =>
       have hqS : q < S.length := by omega
       obtain ⟨y, hy⟩ : ∃ y, S[q]? = some y := ⟨_, List.getElem?_eq_getElem hqS⟩
       have hmy := HSm.out y (List.mem_of_getElem? hy)
       have hym := HR0.out y hmy
       obtain ⟨jm, hjm⟩ : ∃ jm, a + q = jm := ⟨_, rfl⟩
       rw [show ((a + (q + 1) : Nat) : Int) = (jm : Int) + 1 by omega]
       have hX : (onWay A S R x (q + 1))[jm + 1]? = some x := by
        have := onWay_x (A := A) (R := R) (x := x) (S := S) (k := q + 1) (by omega)
        rwa [hAl, show a + (q + 1) = jm + 1 by omega] at this
       have hY : (onWay A S R x (q + 1))[jm]? = some y := by
        have := onWay_y (A := A) (R := R) (x := x) hy
        rwa [hAl, hjm] at this
       have hSw : ((onWay A S R x (q + 1)).set (jm + 1) y).set jm x = onWay A S R x q := by
        have := onWay_swap (A := A) (R := R) (x := x) hy
        rwa [hAl, hjm, show a + (q + 1) = jm + 1 by omega] at this
       have R1 : ∀ w', Lat wr w' → w'.rangeAt g ((jm + 1) * 20) x := fun w' hl => (hRq.later hl).range hX
       have R2 : ∀ w', Lat wr w' → w'.rangeAt g (jm * 20) y := fun w' hl => (hRq.later hl).range hY
       have J1 : (Tryz.prog.info? 101).map (·.size) = some x.length := by rw [hxm.1]; exact HI.out
       have J2 : (Tryz.prog.info? 101).map (·.size) = some y.length := by rw [hym.1]; exact HI.out
       have hjl : jm + 1 < (onWay A S R x (q + 1)).length := (List.getElem?_eq_some_iff.1 hX).1
       have hjn : jm + 1 < n := by omega
       have hjl2 : jm < ((onWay A S R x (q + 1)).set (jm + 1) y).length := by rw [List.length_set]; exact Nat.lt_of_succ_lt hjl
       obtain ⟨t0, t1, t2, t3, t4, t5, t6, t7⟩ := ins_nums hjm hjn hn1
       have HSW := Lib.hid hSw
       have HY := Lib.hid hy
       have hCC := HC.out x hmx y hmy
       have hL := HLT.out x y
       have L0 := Lat.drew wr
       clear hX hY hSw hy hmy
       go_upto_region 4 with (fail)
       refine wp_region_held_drew (S := fun w' => Lat wr w') (by kernel_rfl) L0 (fun hHeld => ?_)
       generalize wr.drew = V0 at L0 hHeld ⊢
       refine wpAnyH_take (i := 0) (v := .int .i64 ((jm : Int) + 1)) rfl (by kernel_rfl) (by kernel_rfl) (by kernel_rfl) (fun _ _ _ h => h) (Or.inl ⟨by rfl, by intro w' hS; go_simp⟩) hHeld ?_
       simp only [Act.put, List.getElem_toArray, List.getElem_cons_succ, List.getElem_cons_zero, List.setIfInBounds_toArray, List.set_cons_zero, List.set_cons_succ]
       refine wpAnyH_take (i := 1) (v := .int .i64 a) rfl (by kernel_rfl) (by kernel_rfl) (by kernel_rfl) (fun _ _ _ h => h) (Or.inl ⟨by rfl, by intro w' hS; go_simp⟩) hHeld ?_
       simp only [Act.put, List.getElem_toArray, List.getElem_cons_succ, List.getElem_cons_zero, List.setIfInBounds_toArray, List.set_cons_zero, List.set_cons_succ]
       refine wpAnyH_take (i := 2) (v := .bool true) rfl (by kernel_rfl) (by kernel_rfl) (by kernel_rfl) (fun _ _ _ h => h) (Or.inl ⟨by rfl, by intro w' hS; go_simp⟩) hHeld ?_
       simp only [Act.put, List.getElem_toArray, List.getElem_cons_succ, List.getElem_cons_zero, List.setIfInBounds_toArray, List.set_cons_zero, List.set_cons_succ]
       refine wpAnyH_take (i := 3) (v := .bool true) rfl (by kernel_rfl) (by kernel_rfl) (by kernel_rfl) (fun _ _ _ h => h) (Or.inl ⟨by rfl, by intro w' hS; go_simp⟩) hHeld ?_
       simp only [Act.put, List.getElem_toArray, List.getElem_cons_succ, List.getElem_cons_zero, List.setIfInBounds_toArray, List.set_cons_zero, List.set_cons_succ]
       refine wpAnyH_take (i := 4) (v := .func (.func 70) #[] #[]) rfl (by kernel_rfl) (by kernel_rfl) (by kernel_rfl) (fun _ _ _ h => h) (Or.inl ⟨by rfl, by intro w' hS; go_simp⟩) hHeld ?_
       simp only [Act.put, List.getElem_toArray, List.getElem_cons_succ, List.getElem_cons_zero, List.setIfInBounds_toArray, List.set_cons_zero, List.set_cons_succ]
       refine wpAnyH_take (i := 5) (v := .slice (some ⟨g, 0, none⟩) n c) rfl (by kernel_rfl) (by kernel_rfl) (by kernel_rfl) (fun _ _ _ h => h) (Or.inl ⟨by rfl, by intro w' hS; go_simp⟩) hHeld ?_
       simp only [Act.put, List.getElem_toArray, List.getElem_cons_succ, List.getElem_cons_zero, List.setIfInBounds_toArray, List.set_cons_zero, List.set_cons_succ]
       refine wpAnyH_take (i := 6) (v := .int .i64 ((jm : Int) + 1)) rfl (by kernel_rfl) (by kernel_rfl) (by kernel_rfl) (fun _ _ _ h => h) (Or.inl ⟨by rfl, by intro w' hS; go_simp⟩) hHeld ?_
       simp only [Act.put, List.getElem_toArray, List.getElem_cons_succ, List.getElem_cons_zero, List.setIfInBounds_toArray, List.set_cons_zero, List.set_cons_succ]
       refine wpAnyH_take (i := 7) (v := .pointer (some ⟨g, ((jm + 1) * 20), none⟩)) rfl (by kernel_rfl) (by kernel_rfl) (by kernel_rfl) (fun _ _ _ h => h) (Or.inl ⟨by rfl, by intro w' hS; go_simp; try (intro h; omega)⟩) hHeld ?_
       simp only [Act.put, List.getElem_toArray, List.getElem_cons_succ, List.getElem_cons_zero, List.setIfInBounds_toArray, List.set_cons_zero, List.set_cons_succ]
       refine' wpAnyH_take (i := 8) rfl (by kernel_rfl) (by kernel_rfl) (by kernel_rfl) (fun _ _ _ h => h) (yieldsIf_load_mid (by rfl) 101 (.tmp 25) rfl g ((jm + 1) * 20) rfl x _ R1 Tryz.underlying101 rfl J1) hHeld ?_
       simp only [Act.put, List.getElem_toArray, List.getElem_cons_succ, List.getElem_cons_zero, List.setIfInBounds_toArray, List.set_cons_zero, List.set_cons_succ]
       refine wpAnyH_take (i := 9) (v := .slice (some ⟨g, 0, none⟩) n c) rfl (by kernel_rfl) (by kernel_rfl) (by kernel_rfl) (fun _ _ _ h => h) (Or.inl ⟨by rfl, by intro w' hS; go_simp⟩) hHeld ?_
       simp only [Act.put, List.getElem_toArray, List.getElem_cons_succ, List.getElem_cons_zero, List.setIfInBounds_toArray, List.set_cons_zero, List.set_cons_succ]
       refine wpAnyH_take (i := 10) (v := .int .i64 ((jm : Int) + 1)) rfl (by kernel_rfl) (by kernel_rfl) (by kernel_rfl) (fun _ _ _ h => h) (Or.inl ⟨by rfl, by intro w' hS; go_simp⟩) hHeld ?_
       simp only [Act.put, List.getElem_toArray, List.getElem_cons_succ, List.getElem_cons_zero, List.setIfInBounds_toArray, List.set_cons_zero, List.set_cons_succ]
       refine wpAnyH_take (i := 11) (v := .int .i64 (jm : Int)) rfl (by kernel_rfl) (by kernel_rfl) (by kernel_rfl) (fun _ _ _ h => h) (Or.inl ⟨by rfl, by intro w' hS; go_simp⟩) hHeld ?_
       simp only [Act.put, List.getElem_toArray, List.getElem_cons_succ, List.getElem_cons_zero, List.setIfInBounds_toArray, List.set_cons_zero, List.set_cons_succ]
       refine wpAnyH_take (i := 12) (v := .pointer (some ⟨g, (jm * 20), none⟩)) rfl (by kernel_rfl) (by kernel_rfl) (by kernel_rfl) (fun _ _ _ h => h) (Or.inl ⟨by rfl, by intro w' hS; go_simp⟩) hHeld ?_
       simp only [Act.put, List.getElem_toArray, List.getElem_cons_succ, List.getElem_cons_zero, List.setIfInBounds_toArray, List.set_cons_zero, List.set_cons_succ]
       refine' wpAnyH_take (i := 13) rfl (by kernel_rfl) (by kernel_rfl) (by kernel_rfl) (fun _ _ _ h => h) (yieldsIf_load_mid (by rfl) 101 (.tmp 30) rfl g (jm * 20) rfl y _ R2 Tryz.underlying101 rfl J2) hHeld ?_
       simp only [Act.put, List.getElem_toArray, List.getElem_cons_succ, List.getElem_cons_zero, List.setIfInBounds_toArray, List.set_cons_zero, List.set_cons_succ]
       refine wpAnyH_ready (rs := [14]) (by kernel_rfl) (by simp) (AllReadyH.cons rfl (fun K hK => ?_) AllReadyH.nil)
       go_simp
       refine (hCC _).mono ?_
       rintro e V1 ⟨rfl, lc⟩
       have L1 := L0.trans lc
       clear lc
       refine hK.out _ _ L1 (fun hHeld1 => ?_)
       clear hK K
       try simp only [Act.put, List.getElem_toArray, List.getElem_cons_succ, List.getElem_cons_zero, List.setIfInBounds_toArray, List.set_cons_zero, List.set_cons_succ]
       obtain ⟨cv, hcv⟩ : ∃ cv, cmp x y = cv := ⟨_, rfl⟩
       rw [hcv] at hL ⊢
       by_cases hc : cv < 0
       ·have hd : decide (cv < 0) = true := by simpa using hc
        refine wpAnyH_take (i := 15) (v := .bool true) rfl (by kernel_rfl) (by kernel_rfl) (by kernel_rfl) (fun _ _ _ h => h) (Or.inl ⟨by rfl, by intro w' hS; go_simp⟩) hHeld1 ?_
        simp only [Act.put, List.getElem_toArray, List.getElem_cons_succ, List.getElem_cons_zero, List.setIfInBounds_toArray, List.set_cons_zero, List.set_cons_succ]
        refine wpAnyH_take (i := 16) (v := .bool true) rfl (by kernel_rfl) (by kernel_rfl) (by kernel_rfl) (fun _ _ _ h => h) (Or.inl ⟨by rfl, by intro w' hS; go_simp⟩) hHeld1 ?_
        simp only [Act.put, List.getElem_toArray, List.getElem_cons_succ, List.getElem_cons_zero, List.setIfInBounds_toArray, List.set_cons_zero, List.set_cons_succ]
        refine wpAnyH_done (by kernel_rfl) ?_ _
        have RV := hRq.later L1
        have HW1 := Lib.hid (way_step hway.out HY.out (by rw [hL]; exact hd))
        go_upto_region 6 with (fail)
        refine wp_region_held_drew (S := fun _ => True) (by kernel_rfl) trivial (fun hHeld => ?_)
        have L2 := L1.trans (Lat.drew V1)
        have RV := hRq.later L2
        generalize V1.drew = V2 at L2 RV hHeld ⊢
        refine wpAnyH_take (i := 0) (v := .slice (some ⟨g, 0, none⟩) n c) rfl (by kernel_rfl) (by kernel_rfl) (by kernel_rfl) (fun _ _ _ h => h) (Or.inl ⟨by rfl, by intro w' hS; go_simp⟩) hHeld ?_
        simp only [Act.put, List.getElem_toArray, List.getElem_cons_succ, List.getElem_cons_zero, List.setIfInBounds_toArray, List.set_cons_zero, List.set_cons_succ]
        refine wpAnyH_take (i := 1) (v := .int .i64 ((jm : Int) + 1)) rfl (by kernel_rfl) (by kernel_rfl) (by kernel_rfl) (fun _ _ _ h => h) (Or.inl ⟨by rfl, by intro w' hS; go_simp⟩) hHeld ?_
        simp only [Act.put, List.getElem_toArray, List.getElem_cons_succ, List.getElem_cons_zero, List.setIfInBounds_toArray, List.set_cons_zero, List.set_cons_succ]
        refine wpAnyH_take (i := 2) (v := .slice (some ⟨g, 0, none⟩) n c) rfl (by kernel_rfl) (by kernel_rfl) (by kernel_rfl) (fun _ _ _ h => h) (Or.inl ⟨by rfl, by intro w' hS; go_simp⟩) hHeld ?_
        simp only [Act.put, List.getElem_toArray, List.getElem_cons_succ, List.getElem_cons_zero, List.setIfInBounds_toArray, List.set_cons_zero, List.set_cons_succ]
        refine wpAnyH_take (i := 3) (v := .int .i64 ((jm : Int) + 1)) rfl (by kernel_rfl) (by kernel_rfl) (by kernel_rfl) (fun _ _ _ h => h) (Or.inl ⟨by rfl, by intro w' hS; go_simp⟩) hHeld ?_
        simp only [Act.put, List.getElem_toArray, List.getElem_cons_succ, List.getElem_cons_zero, List.setIfInBounds_toArray, List.set_cons_zero, List.set_cons_succ]
        refine wpAnyH_take (i := 4) (v := .int .i64 (jm : Int)) rfl (by kernel_rfl) (by kernel_rfl) (by kernel_rfl) (fun _ _ _ h => h) (Or.inl ⟨by rfl, by intro w' hS; go_simp⟩) hHeld ?_
        simp only [Act.put, List.getElem_toArray, List.getElem_cons_succ, List.getElem_cons_zero, List.setIfInBounds_toArray, List.set_cons_zero, List.set_cons_succ]
        refine wpAnyH_take (i := 5) (v := .slice (some ⟨g, 0, none⟩) n c) rfl (by kernel_rfl) (by kernel_rfl) (by kernel_rfl) (fun _ _ _ h => h) (Or.inl ⟨by rfl, by intro w' hS; go_simp⟩) hHeld ?_
        simp only [Act.put, List.getElem_toArray, List.getElem_cons_succ, List.getElem_cons_zero, List.setIfInBounds_toArray, List.set_cons_zero, List.set_cons_succ]
        refine wpAnyH_take (i := 6) (v := .int .i64 ((jm : Int) + 1)) rfl (by kernel_rfl) (by kernel_rfl) (by kernel_rfl) (fun _ _ _ h => h) (Or.inl ⟨by rfl, by intro w' hS; go_simp⟩) hHeld ?_
        simp only [Act.put, List.getElem_toArray, List.getElem_cons_succ, List.getElem_cons_zero, List.setIfInBounds_toArray, List.set_cons_zero, List.set_cons_succ]
        refine wpAnyH_take (i := 7) (v := .int .i64 (jm : Int)) rfl (by kernel_rfl) (by kernel_rfl) (by kernel_rfl) (fun _ _ _ h => h) (Or.inl ⟨by rfl, by intro w' hS; go_simp⟩) hHeld ?_
        simp only [Act.put, List.getElem_toArray, List.getElem_cons_succ, List.getElem_cons_zero, List.setIfInBounds_toArray, List.set_cons_zero, List.set_cons_succ]
        refine wpAnyH_take (i := 8) (v := .pointer (some ⟨g, (jm * 20), none⟩)) rfl (by kernel_rfl) (by kernel_rfl) (by kernel_rfl) (fun _ _ _ h => h) (Or.inl ⟨by rfl, by intro w' hS; go_simp⟩) hHeld ?_
        simp only [Act.put, List.getElem_toArray, List.getElem_cons_succ, List.getElem_cons_zero, List.setIfInBounds_toArray, List.set_cons_zero, List.set_cons_succ]
        refine wpAnyH_take (i := 10) (v := .slice (some ⟨g, 0, none⟩) n c) rfl (by kernel_rfl) (by kernel_rfl) (by kernel_rfl) (fun _ _ _ h => h) (Or.inl ⟨by rfl, by intro w' hS; go_simp⟩) hHeld ?_
        simp only [Act.put, List.getElem_toArray, List.getElem_cons_succ, List.getElem_cons_zero, List.setIfInBounds_toArray, List.set_cons_zero, List.set_cons_succ]
        refine wpAnyH_take (i := 11) (v := .int .i64 ((jm : Int) + 1)) rfl (by kernel_rfl) (by kernel_rfl) (by kernel_rfl) (fun _ _ _ h => h) (Or.inl ⟨by rfl, by intro w' hS; go_simp⟩) hHeld ?_
        simp only [Act.put, List.getElem_toArray, List.getElem_cons_succ, List.getElem_cons_zero, List.setIfInBounds_toArray, List.set_cons_zero, List.set_cons_succ]
        refine wpAnyH_take (i := 12) (v := .pointer (some ⟨g, ((jm + 1) * 20), none⟩)) rfl (by kernel_rfl) (by kernel_rfl) (by kernel_rfl) (fun _ _ _ h => h) (Or.inl ⟨by rfl, by intro w' hS; go_simp; try (intro h; omega)⟩) hHeld ?_
        simp only [Act.put, List.getElem_toArray, List.getElem_cons_succ, List.getElem_cons_zero, List.setIfInBounds_toArray, List.set_cons_zero, List.set_cons_succ]
        refine wpAnyH_ready (rs := [9, 13]) (by kernel_rfl) (by simp) (AllReadyH.cons rfl (fun K hK => ?_) (AllReadyH.cons rfl (fun K hK => ?_) AllReadyH.nil))
        ·skip
         rw [if_pos (by rfl)]
         refine wp_load_mid 101 (.tmp 45) rfl g ((jm * 20)) rfl y _ (R2 _ L2) Tryz.underlying101 rfl J2 ?_
         refine hK.out _ _ trivial (fun hHeld1 => ?_)
         clear hK K
         try simp only [Act.put, List.getElem_toArray, List.getElem_cons_succ, List.getElem_cons_zero, List.setIfInBounds_toArray, List.set_cons_zero, List.set_cons_succ]
         refine wpAnyH_ready (rs := [13]) (by kernel_rfl) (by simp) (AllReadyH.cons rfl (fun K hK => ?_) AllReadyH.nil)
         rw [if_pos (by rfl)]
         refine wp_load_mid 101 (.tmp 49) rfl g (((jm + 1) * 20)) rfl x _ (R1 _ L2) Tryz.underlying101 rfl J1 ?_
         refine hK.out _ _ trivial (fun hHeld2 => ?_)
         clear hK K
         try simp only [Act.put, List.getElem_toArray, List.getElem_cons_succ, List.getElem_cons_zero, List.setIfInBounds_toArray, List.set_cons_zero, List.set_cons_succ]
         refine wpAnyH_take (i := 14) (v := .pointer (some ⟨g, ((jm + 1) * 20), none⟩)) rfl (by kernel_rfl) (by kernel_rfl) (by kernel_rfl) (fun _ _ _ h => h) (Or.inl ⟨by rfl, by intro w' hS; go_simp; try (intro h; omega)⟩) hHeld2 ?_
         simp only [Act.put, List.getElem_toArray, List.getElem_cons_succ, List.getElem_cons_zero, List.setIfInBounds_toArray, List.set_cons_zero, List.set_cons_succ]
         refine wpAnyH_ready (rs := [15]) (by kernel_rfl) (by simp) (AllReadyH.cons rfl (fun K hK => ?_) AllReadyH.nil)
         rw [if_pos (by rfl)]
         refine wp_setM 101 (.tmp 51) (.tmp 46) rfl RV hjl (o := ((jm + 1) * 20)) rfl rfl y rfl hym.1 HI.out hym.2 ?_
         intro V3 R3 P3 s3
         refine hK.out _ _ trivial (fun hHeld3 => ?_)
         clear hK K
         try simp only [Act.put, List.getElem_toArray, List.getElem_cons_succ, List.getElem_cons_zero, List.setIfInBounds_toArray, List.set_cons_zero, List.set_cons_succ]
         refine wpAnyH_take (i := 16) (v := .pointer (some ⟨g, (jm * 20), none⟩)) rfl (by kernel_rfl) (by kernel_rfl) (by kernel_rfl) (fun _ _ _ h => h) (Or.inl ⟨by rfl, by intro w' hS; go_simp⟩) hHeld3 ?_
         simp only [Act.put, List.getElem_toArray, List.getElem_cons_succ, List.getElem_cons_zero, List.setIfInBounds_toArray, List.set_cons_zero, List.set_cons_succ]
         refine wpAnyH_ready (rs := [17]) (by kernel_rfl) (by simp) (AllReadyH.cons rfl (fun K hK => ?_) AllReadyH.nil)
         rw [if_pos (by rfl)]
         refine wp_setM 101 (.tmp 52) (.tmp 50) rfl R3 (i := jm) hjl2 (o := (jm * 20)) rfl rfl x rfl hxm.1 HI.out hxm.2 ?_
         intro V4 R4 P4 s4
         rw [HSW.out] at R4
         refine hK.out _ _ trivial (fun hHeld4 => ?_)
         clear hK K
         try simp only [Act.put, List.getElem_toArray, List.getElem_cons_succ, List.getElem_cons_zero, List.setIfInBounds_toArray, List.set_cons_zero, List.set_cons_succ]
         refine wpAnyH_done (by kernel_rfl) ?_ _
         have LP4 := ((hlq.trans (L2.p _)).trans P3).trans P4
         go_wp2
         exact ⟨⟨q, Nat.le_of_succ_le hqk, by rw [hjm], R4, HW1.out, LP4⟩, meas_down jm⟩
        ·skip
         rw [if_pos (by rfl)]
         refine wp_load_mid 101 (.tmp 49) rfl g (((jm + 1) * 20)) rfl x _ (R1 _ L2) Tryz.underlying101 rfl J1 ?_
         refine hK.out _ _ trivial (fun hHeld1 => ?_)
         clear hK K
         try simp only [Act.put, List.getElem_toArray, List.getElem_cons_succ, List.getElem_cons_zero, List.setIfInBounds_toArray, List.set_cons_zero, List.set_cons_succ]
         refine wpAnyH_ready (rs := [9]) (by kernel_rfl) (by simp) (AllReadyH.cons rfl (fun K hK => ?_) AllReadyH.nil)
         rw [if_pos (by rfl)]
         refine wp_load_mid 101 (.tmp 45) rfl g ((jm * 20)) rfl y _ (R2 _ L2) Tryz.underlying101 rfl J2 ?_
         refine hK.out _ _ trivial (fun hHeld2 => ?_)
         clear hK K
         try simp only [Act.put, List.getElem_toArray, List.getElem_cons_succ, List.getElem_cons_zero, List.setIfInBounds_toArray, List.set_cons_zero, List.set_cons_succ]
         refine wpAnyH_take (i := 14) (v := .pointer (some ⟨g, ((jm + 1) * 20), none⟩)) rfl (by kernel_rfl) (by kernel_rfl) (by kernel_rfl) (fun _ _ _ h => h) (Or.inl ⟨by rfl, by intro w' hS; go_simp; try (intro h; omega)⟩) hHeld2 ?_
         simp only [Act.put, List.getElem_toArray, List.getElem_cons_succ, List.getElem_cons_zero, List.setIfInBounds_toArray, List.set_cons_zero, List.set_cons_succ]
         refine wpAnyH_ready (rs := [15]) (by kernel_rfl) (by simp) (AllReadyH.cons rfl (fun K hK => ?_) AllReadyH.nil)
         rw [if_pos (by rfl)]
         refine wp_setM 101 (.tmp 51) (.tmp 46) rfl RV hjl (o := ((jm + 1) * 20)) rfl rfl y rfl hym.1 HI.out hym.2 ?_
         intro V3 R3 P3 s3
         refine hK.out _ _ trivial (fun hHeld3 => ?_)
         clear hK K
         try simp only [Act.put, List.getElem_toArray, List.getElem_cons_succ, List.getElem_cons_zero, List.setIfInBounds_toArray, List.set_cons_zero, List.set_cons_succ]
         refine wpAnyH_take (i := 16) (v := .pointer (some ⟨g, (jm * 20), none⟩)) rfl (by kernel_rfl) (by kernel_rfl) (by kernel_rfl) (fun _ _ _ h => h) (Or.inl ⟨by rfl, by intro w' hS; go_simp⟩) hHeld3 ?_
         simp only [Act.put, List.getElem_toArray, List.getElem_cons_succ, List.getElem_cons_zero, List.setIfInBounds_toArray, List.set_cons_zero, List.set_cons_succ]
         refine wpAnyH_ready (rs := [17]) (by kernel_rfl) (by simp) (AllReadyH.cons rfl (fun K hK => ?_) AllReadyH.nil)
         rw [if_pos (by rfl)]
         refine wp_setM 101 (.tmp 52) (.tmp 50) rfl R3 (i := jm) hjl2 (o := (jm * 20)) rfl rfl x rfl hxm.1 HI.out hxm.2 ?_
         intro V4 R4 P4 s4
         rw [HSW.out] at R4
         refine hK.out _ _ trivial (fun hHeld4 => ?_)
         clear hK K
         try simp only [Act.put, List.getElem_toArray, List.getElem_cons_succ, List.getElem_cons_zero, List.setIfInBounds_toArray, List.set_cons_zero, List.set_cons_succ]
         refine wpAnyH_done (by kernel_rfl) ?_ _
         have LP4 := ((hlq.trans (L2.p _)).trans P3).trans P4
         go_wp2
         exact ⟨⟨q, Nat.le_of_succ_le hqk, by rw [hjm], R4, HW1.out, LP4⟩, meas_down jm⟩
       ·have hd : decide (cv < 0) = false := by simpa using hc
        have hc2 : 0 ≤ cv := by omega
        refine wpAnyH_take (i := 15) (v := .bool false) rfl (by kernel_rfl) (by kernel_rfl) (by kernel_rfl) (fun _ _ _ h => h) (Or.inl ⟨by rfl, by intro w' hS; go_simp⟩) hHeld1 ?_
        simp only [Act.put, List.getElem_toArray, List.getElem_cons_succ, List.getElem_cons_zero, List.setIfInBounds_toArray, List.set_cons_zero, List.set_cons_succ]
        refine wpAnyH_take (i := 16) (v := .bool false) rfl (by kernel_rfl) (by kernel_rfl) (by kernel_rfl) (fun _ _ _ h => h) (Or.inl ⟨by rfl, by intro w' hS; go_simp⟩) hHeld1 ?_
        simp only [Act.put, List.getElem_toArray, List.getElem_cons_succ, List.getElem_cons_zero, List.setIfInBounds_toArray, List.set_cons_zero, List.set_cons_succ]
        refine wpAnyH_done (by kernel_rfl) ?_ _
        have hfin := way_stop (A := A) (R := R) hway.out (.inr ⟨q, y, rfl, HY.out, by rw [hL]; exact hd⟩)
        rw [hfin] at hRq
        go_wp2
        refine ⟨⟨k + 1, Nat.lt_succ_of_lt hak, hkb', int_succ k, ?_, (hlr.trans hlq).trans (L1.p _)⟩, meas_up hkb'⟩
        rw [HN.out, HA.out, HR'.out]
        exact hRq.later L1
   ·obtain rfl : k = b := by omega
    go_wp2
    refine bodyPost_ret (results_none rfl _ _ _) rfl ?_
    exact ⟨⟨_, rfl⟩, hR, hlr⟩
end Go.Proofs.YteocdndanehpnaaGreat
namespace Go.Proofs.YteocdndanehpnaaGreat
open Go.RowKit
set_option linter.unusedSimpArgs false
set_option maxRecDepth 100000 in
set_option maxHeartbeats 2000000 in
theorem qClStable_few (cmp : List Value → List Value → Int) (g n c : Nat) (xs : List (List Value)) (w : World) (hr : RowB w g 101 20 xs) (hn : xs.length = n) (hn1 : n < 20)
  (HCMP : ∀ x ∈ xs, ∀ y ∈ xs, ∀ w', Calls Tryz.prog 70 #[.agg x.toArray, .agg y.toArray] w' (fun e w'' => e = .returned (.int .i64 (cmp x y)) ∧ Lat w' w'')) :
  Calls Tryz.prog 97 #[.slice (some ⟨g, 0, none⟩) n c, .int .i64 n, .func (.func 70) #[] #[]] w (qClSortPost w g (sortR (fun x y => decide (cmp x y < 0)) xs)) := by
 have HI := qClIns_any cmp g n c xs 0 n (Nat.zero_le _) (Nat.le_refl _) w hr hn (by omega) HCMP
 have e0 : xs.take 0 ++ (sortR (fun x y => decide (cmp x y < 0)) ((xs.drop 0).take (n - 0)) ++ xs.drop n) = sortR (fun x y => decide (cmp x y < 0)) xs := by
  have h1 : (xs.drop 0).take (n - 0) = xs := by rw [List.drop_zero, Nat.sub_zero]; exact List.take_of_length_le (by omega)
  have h2 : xs.drop n = [] := List.drop_eq_nil_of_le (by omega)
  rw [h1, h2]
  simp
 rw [e0] at HI
 obtain ⟨ys, hys⟩ : ∃ ys, sortR (fun x y => decide (cmp x y < 0)) xs = ys := ⟨_, rfl⟩
 rw [hys] at HI ⊢
 have h20 : ¬ (20 : Int) ≤ (n : Int) := by omega
 have h20' : (n : Int) < 20 := by omega
 clear hr hn hys e0 HCMP
 go_enter Tryz.func97, Tryz.ntmps97
 go_wp2
 go_loopw [7, 8] (fun a b wr => a = .int .i64 0 ∧ b = .int .i64 20 ∧ wr = w) (fun _ _ _ => 0)
 case atStart => exact ⟨rfl, rfl, rfl⟩
 case round =>
  obtain ⟨rfl, rfl, rfl⟩ := hrel
  go_wp2_with fail
  refine HI.mono ?_
  rintro e w1 ⟨⟨v, rfl⟩, h1, h2⟩
  go_wp2
  go_loopw [6] (fun b wr => b = .int .i64 20 ∧ wr = w1) (fun _ _ => 0)
  case atStart => exact ⟨rfl, rfl⟩
  case round =>
   obtain ⟨rfl, rfl⟩ := hrel
   go_wp2
   refine bodyPost_ret (results_none rfl _ _ _) rfl ?_
   exact ⟨⟨_, rfl⟩, h1, h2⟩
theorem qClSort_few (cmp : List Value → List Value → Int) (g n c : Nat) (xs : List (List Value)) (w : World) (hr : RowB w g 101 20 xs) (hn : xs.length = n) (hn1 : n < 20)
  (HCMP : ∀ x ∈ xs, ∀ y ∈ xs, ∀ w', Calls Tryz.prog 70 #[.agg x.toArray, .agg y.toArray] w' (fun e w'' => e = .returned (.int .i64 (cmp x y)) ∧ Lat w' w'')) :
  Calls Tryz.prog 69 #[.slice (some ⟨g, 0, none⟩) n c, .func (.func 70) #[] #[]] w (qClSortPost w g (sortR (fun x y => decide (cmp x y < 0)) xs)) := by
 have HI := qClStable_few cmp g n c xs w hr hn hn1 HCMP
 obtain ⟨ys, hys⟩ : ∃ ys, sortR (fun x y => decide (cmp x y < 0)) xs = ys := ⟨_, rfl⟩
 rw [hys] at HI ⊢
 clear hr hn hys HCMP
 go_enter Tryz.func69, Tryz.ntmps69
 go_wp2_with fail
 refine HI.mono ?_
 rintro e w1 ⟨⟨v, rfl⟩, h1, h2⟩
 go_wp2
 refine bodyPost_ret (results_none rfl _ _ _) rfl ?_
 exact ⟨⟨_, rfl⟩, h1, h2⟩
end Go.Proofs.YteocdndanehpnaaGreat
