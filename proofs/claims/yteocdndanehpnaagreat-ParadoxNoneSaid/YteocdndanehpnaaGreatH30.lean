/- Several texts in one: Draft, DraftIn. -/
import Derived.Test.YteocdndanehpnaaGreatH14
import Derived.Test.YteocdndanehpnaaGreatH20
import Derived.Deep.DeepCutAuto
import Derived.Test.YteocdndanehpnaaGreatH28
namespace Go.Proofs.YteocdndanehpnaaGreat
open Go.RowKit
set_option linter.unusedSimpArgs false
def houseN (s : Int) : Int := if s % 8 = 0 then 1 + s % 1000 else 1 + s % 20
theorem houseN_range {s : Int} : 1 ≤ houseN s ∧ houseN s ≤ 1000 := by unfold houseN; split <;> omega
theorem house_any (Ap : Option Addr) (np cp : Nat) (u : Int) (Al : Option Addr) (nl cl : Nat) (s : Int) (w : World) (h0 : 0 ≤ s) (h1 : s ≤ 65535) :
  Calls Tryz.prog 10 #[.agg #[.slice Ap np cp, .int .u8 u, .slice Al nl cl, .int .u16 s]] w (fun e w' => e = .returned (.int .i64 (houseN s)) ∧ Lat w w') := by
 by_cases h : s % 8 = 0
 ·have HH : Hid (houseN s = 1 + s % 1000) := by show _ = _; rw [houseN, if_pos h]
  have hb : (s % 8 == 0) = true := by simp [h]
  clear h
  go_enter Tryz.func10, Tryz.ntmps10
  go_upto_region 1 with (fail)
  refine name1 (Q := fun W => Code.wp _ _ _ _ W) ?_
  intro W hl hs k1
  have c1_0 := k1.cell 0
  have c1_1 := k1.cell 1
  have c1_2 := k1.cell 2
  have c1_3 := k1.cell 3
  go_wp2
  go_ret
  exact ⟨by rw [HH.out]; rfl, hl⟩
 ·have HH : Hid (houseN s = 1 + s % 20) := by show _ = _; rw [houseN, if_neg h]
  have hb : (s % 8 == 0) = false := by simp [h]
  clear h
  go_enter Tryz.func10, Tryz.ntmps10
  go_upto_region 1 with (fail)
  refine name1 (Q := fun W => Code.wp _ _ _ _ W) ?_
  intro W hl hs k1
  have c1_0 := k1.cell 0
  have c1_1 := k1.cell 1
  have c1_2 := k1.cell 2
  have c1_3 := k1.cell 3
  go_wp2
  go_ret
  exact ⟨by rw [HH.out]; rfl, hl⟩
def cenOne (u n : Int) : Int := if u % 3 = 0 then n % 12 else n * u
def draftC (u : Int) (ps : List Int) : List Int :=
 if ((ps.take 8).map (cenOne u)).sum = 0 then (ps.take 8).map (cenOne u) ++ [1] else (ps.take 8).map (cenOne u)
theorem cenOne_range {u n : Int} (h0 : 0 ≤ u) (h1 : u ≤ 255) (h2 : 0 ≤ n) (h3 : n ≤ 65535) : 0 ≤ cenOne u n ∧ cenOne u n ≤ 17000000 := by
 unfold cenOne
 split
 ·omega
 ·have := Int.mul_nonneg h2 h0
  have h4 : n * u ≤ 65535 * 255 := Int.mul_le_mul h3 h1 h0 (by decide)
  omega
theorem cen_all {u : Int} {ps : List Int} (h0 : 0 ≤ u) (h1 : u ≤ 255) (hp : ∀ x ∈ ps, 0 ≤ x ∧ x ≤ 65535) (k : Nat) : ∀ x ∈ (ps.take k).map (cenOne u), 0 ≤ x ∧ x ≤ 17000000 := by
 intro x hx
 obtain ⟨y, hy, rfl⟩ := List.mem_map.1 hx
 have := hp y (List.mem_of_mem_take hy)
 exact cenOne_range h0 h1 this.1 this.2
theorem cen_sum {l : List Int} (h : ∀ x ∈ l, 0 ≤ x ∧ x ≤ 17000000) : 0 ≤ l.sum ∧ l.sum ≤ 17000000 * l.length := by
 induction l with
 | nil => simp
 | cons y r ih =>
   have h1 := h y (by simp)
   have h2 := ih (fun x hx => h x (by simp [hx]))
   simp only [List.sum_cons, List.length_cons]
   omega
theorem draftC_ok {u : Int} {ps : List Int} (h0 : 0 ≤ u) (h1 : u ≤ 255) (hp : ∀ x ∈ ps, 0 ≤ x ∧ x ≤ 65535) : (∀ x ∈ draftC u ps, 0 ≤ x ∧ x ≤ 17000000) ∧ 0 < (draftC u ps).sum ∧ 0 < (draftC u ps).length ∧ (draftC u ps).length ≤ 9 := by
 have ha := cen_all h0 h1 hp 8
 have hs := (cen_sum ha).1
 have hl : ((ps.take 8).map (cenOne u)).length ≤ 8 := by rw [List.length_map]; exact List.length_take_le _ _
 unfold draftC
 split
 ·rename_i hz
  refine ⟨fun x hx => ?_, by rw [List.sum_append, hz]; decide, by simp, by simp only [List.length_append, List.length_singleton]; omega⟩
  rcases List.mem_append.1 hx with h | h
  ·exact ha x h
  ·rw [List.mem_singleton] at h; omega
 ·rename_i hz
  refine ⟨ha, by omega, ?_, by omega⟩
  refine List.length_pos_iff.2 (fun he => hz ?_)
  rw [he]; rfl
theorem draftC_census {u : Int} {ps : List Int} (h0 : 0 ≤ u) (h1 : u ≤ 255) (hp : ∀ x ∈ ps, 0 ≤ x ∧ x ≤ 65535) : censusB (draftC u ps) = true := by
 obtain ⟨a, b, c, d⟩ := draftC_ok h0 h1 hp
 exact census_iff.2 ⟨by omega, fun x hx => by have := a x hx; omega, b⟩
def NewPost (w : World) (xs : List Int) (e : Ending) (w' : World) : Prop :=
 ∃ A c, e = .returned (.slice A xs.length c) ∧ Sl w' .i64 A xs.length xs ∧ xs.length ≤ c ∧ Lat w w' ∧ ∀ a, A = some a → w.heap.size ≤ a.block
set_option maxHeartbeats 2000000 in
theorem census_any (Ap : Option Addr) (np cp : Nat) (ps : List Int) (u : Int) (Al : Option Addr) (nl cl : Nat) (s : Int) (w : World) (hp : Sl w .u16 Ap np ps) (hn : np ≤ 9223372036854775807) (hr : ∀ x ∈ ps, 0 ≤ x ∧ x ≤ 65535) (u0 : 0 ≤ u) (u1 : u ≤ 255) :
  Calls Tryz.prog 9 #[.agg #[.slice Ap np cp, .int .u8 u, .slice Al nl cl, .int .u16 s]] w (NewPost w (draftC u ps)) := by
 have HR := Lib.hid hr
 have hpl := hp.1
 have HPL := Lib.hid hpl
 clear hr hpl
 go_enter Tryz.func9, Tryz.ntmps9
 go_upto_region 1 with (fail)
 refine name1 (Q := fun W => Code.wp _ _ _ _ W) ?_
 intro W hl hs k1
 have hpW := hp.later hl
 go_wp2
 go_loopw [3, 4, 5] (fun v t i wr => ∃ k : Nat, k ≤ np ∧ k ≤ 8 ∧ i = .int .i64 k ∧ Own wr W.heap.size 3 .i64 v ((ps.take k).map (cenOne u)) ∧ t = .int .i64 ((ps.take k).map (cenOne u)).sum ∧ Lat W wr) (fun _ _ i _ => 8 - (intOf i).toNat)
 case atStart => exact ⟨0, Nat.zero_le _, by omega, rfl, Own.nil _ _ _ _, rfl, Lat.refl _⟩
 case round =>
  obtain ⟨k, hk, hk8, rfl, hown, rfl, hlr⟩ := hrel
  have hB := hlr.size
  have HSB := Lib.hid (cen_sum (cen_all u0 u1 HR.out k))
  have hlk : ((ps.take k).map (cenOne u)).length = k := by rw [List.length_map, List.length_take]; have := HPL.out; omega
  have hsb := HSB.out
  rw [hlk] at hsb
  have HLK := Lib.hid hlk
  clear hlk HSB
  have k2 := k1.later hlr
  have c1_0 := k2.cell 0
  have c1_1 := k2.cell 1
  have c1_2 := k2.cell 2
  have c1_3 := k2.cell 3
  by_cases hlt : k < np ∧ k < 8
  ·obtain ⟨hlt, hlt8⟩ := hlt
   obtain ⟨a, x, rfl, ha, hxk, hcell⟩ := (hpW.later hlr).at hlt
   have hx := HR.out x (List.mem_of_getElem? hxk)
   have hx0 := hx.1
   have hx1 := hx.2
   have HT : Hid ((ps.take (k + 1)).map (cenOne u) = (ps.take k).map (cenOne u) ++ [cenOne u x]) := by
    obtain ⟨hl', rfl⟩ := List.getElem?_eq_some_iff.1 hxk
    show _ = _
    rw [List.take_succ_eq_append_getElem hl', List.map_append]; rfl
   have hc := cenOne_range u0 u1 hx0 hx1
   have hlt8' : (k : Int) < 8 := by omega
   have hlt' : (k : Int) < np := by omega
   obtain ⟨os, hos⟩ : ∃ os, (ps.take k).map (cenOne u) = os := ⟨_, rfl⟩
   rw [hos] at hown HT HLK hsb ⊢
   obtain ⟨t, ht⟩ : ∃ t, os.sum = t := ⟨_, rfl⟩
   rw [ht] at hsb ⊢
   have HS := Lib.hid ht
   obtain ⟨y, hy⟩ : ∃ y, cenOne u x = y := ⟨_, rfl⟩
   rw [hy] at HT hc
   have HS' : Hid (((ps.take (k + 1)).map (cenOne u)).sum = t + y) := by show _ = _; rw [HT.out, List.sum_append, ht]; simp
   have hc0 := hc.1
   have hc1 := hc.2
   have hs0 := hsb.1
   have hs1 : t ≤ 136000000 := by omega
   clear hxk hx ht hos hc hsb HS
   have hol : os.length + 1 ≤ 17000000000000 := by have := HLK.out; omega
   by_cases hu : u % 3 = 0
   ·have hy' : x % 12 = y := by rw [← hy, cenOne, if_pos hu]
    have hub : (u % 3 == 0) = true := by simp [hu]
    clear hy hu
    go_wp2_with (at_builtin; refine wpList_push rfl _ _ 29 rfl W.heap.size 3 3 .i64 8 Tryz.underlying29 infoI64 (by decide) _ os [y] _ rfl wr (by rfl) hown 1 rfl (by decide) (by rfl) hol hB ?_; intro v' w1 hown1 hlat1)
    go_roundw
    case rel => exact ⟨k + 1, by omega, by omega, by go_num, by rw [HT.out]; exact hown1, by rw [HS'.out], hlat1 W hlr (Nat.le_refl _)⟩
    case measure => simp [intOf]; omega
   ·have hy' : x * u = y := by rw [← hy, cenOne, if_neg hu]
    have hub : (u % 3 == 0) = false := by simp [hu]
    clear hy hu
    go_wp2_with (at_builtin; refine wpList_push rfl _ _ 29 rfl W.heap.size 3 3 .i64 8 Tryz.underlying29 infoI64 (by decide) _ os [y] _ rfl wr (by rfl) hown 1 rfl (by decide) (by rfl) hol hB ?_; intro v' w1 hown1 hlat1)
    go_roundw
    case rel => exact ⟨k + 1, by omega, by omega, by go_num, by rw [HT.out]; exact hown1, by rw [HS'.out], hlat1 W hlr (Nat.le_refl _)⟩
    case measure => simp [intOf]; omega
  ·have htk : ps.take k = ps.take 8 := by
    have := HPL.out
    by_cases h8 : k = 8
    ·rw [h8]
    ·rw [List.take_of_length_le (by omega), List.take_of_length_le (by omega)]
   have hdr : Hid (draftC u ps = if ((ps.take k).map (cenOne u)).sum = 0 then (ps.take k).map (cenOne u) ++ [1] else (ps.take k).map (cenOne u)) := by show _ = _; rw [draftC, htk]
   obtain ⟨os, hos⟩ : ∃ os, (ps.take k).map (cenOne u) = os := ⟨_, rfl⟩
   rw [hos] at hown HLK hsb hdr ⊢
   obtain ⟨t, ht⟩ : ∃ t, os.sum = t := ⟨_, rfl⟩
   rw [ht] at hsb hdr ⊢
   have hs0 := hsb.1
   have hol : os.length + 1 ≤ 17000000000000 := by have := HLK.out; omega
   obtain ⟨A3, c3, rfl, hsl, hcap, hnew⟩ := hown.form
   have hLW := hl.trans hlr
   have hWs := hl.size
   clear htk hos ht hsb
   by_cases h0 : t = 0
   ·have HD : Hid (draftC u ps = os ++ [1]) := by show _ = _; rw [hdr.out, if_pos h0]
    subst h0
    clear hdr
    by_cases hk1 : k < np
    ·have hk2 : ¬ (k : Int) < 8 := by omega
     clear hlt
     go_wp2_with (at_builtin; refine wpList_push rfl _ _ 29 rfl W.heap.size 3 3 .i64 8 Tryz.underlying29 infoI64 (by decide) _ os [1] _ rfl wr (by rfl) hown 1 rfl (by decide) (by rfl) hol hB ?_; intro v' w1 hown1 hlat1)
     obtain ⟨A4, c4, rfl, hsl4, hcap4, hnew4⟩ := hown1.form
     have hl1 := hlat1 W hlr (Nat.le_refl _)
     go_ret
     exact ⟨A4, c4, by rw [HD.out]; rfl, by rw [HD.out]; exact hsl4, by rw [HD.out]; exact hcap4, hl.trans hl1, fun a e => by have := (hnew4 a e).1; omega⟩
    ·clear hlt
     go_wp2_with (at_builtin; refine wpList_push rfl _ _ 29 rfl W.heap.size 3 3 .i64 8 Tryz.underlying29 infoI64 (by decide) _ os [1] _ rfl wr (by rfl) hown 1 rfl (by decide) (by rfl) hol hB ?_; intro v' w1 hown1 hlat1)
     obtain ⟨A4, c4, rfl, hsl4, hcap4, hnew4⟩ := hown1.form
     have hl1 := hlat1 W hlr (Nat.le_refl _)
     go_ret
     exact ⟨A4, c4, by rw [HD.out]; rfl, by rw [HD.out]; exact hsl4, by rw [HD.out]; exact hcap4, hl.trans hl1, fun a e => by have := (hnew4 a e).1; omega⟩
   ·have HD : Hid (draftC u ps = os) := by show _ = _; rw [hdr.out, if_neg h0]
    have h0' : (t == 0) = false := by simp [h0]
    have HF : Hid (NewPost w (draftC u ps) (.returned (.slice A3 os.length c3)) wr) := by
     show NewPost _ _ _ _
     rw [HD.out]
     exact ⟨A3, c3, rfl, hsl, hcap, hLW, fun a e => by have := (hnew a e).1; omega⟩
    clear hdr h0 hown hsl hcap hnew
    by_cases hk1 : k < np
    ·have hk2 : ¬ (k : Int) < 8 := by omega
     clear hlt
     go_wp2
     go_ret
     exact HF.out
    ·clear hlt
     go_wp2
     go_ret
     exact HF.out
end Go.Proofs.YteocdndanehpnaaGreat
namespace Go.Proofs.YteocdndanehpnaaGreat
open Go.ChangeShapes Go.WideShapes Go.ChangeAt Go.RowKit Go.Joins
theorem list4v {α : Type} (l : List α) (h : (⟨l⟩ : Array α).size = 4) : ∃ a b c d, l = [a, b, c, d] := by
 match l, h with
 | [a, b, c, d], _ => exact ⟨a, b, c, d, rfl⟩
theorem draftCells : Tryz.prog.cellsOf 26 = 4 := by kernel_rfl
theorem cells16 : Tryz.prog.cellsOf 22 = 1 := by kernel_rfl
theorem cells8 : Tryz.prog.cellsOf 23 = 1 := by kernel_rfl
theorem cellU16 : Tryz.prog.cellsOf 24 = 1 := by kernel_rfl
theorem cellU8 : Tryz.prog.cellsOf 5 = 1 := by kernel_rfl
theorem wf_u16 {x : Int} (h : (Lit.int .u16 x).wf = true) : 0 ≤ x ∧ x ≤ 65535 := by
 have e3 : IntKind.u16.min = 0 := by decide
 have e4 : IntKind.u16.max = 65535 := by decide
 simp [Lit.wf, e3, e4] at h
 omega
theorem wf_u8 {x : Int} (h : (Lit.int .u8 x).wf = true) : 0 ≤ x ∧ x ≤ 255 := by
 have e3 : IntKind.u8.min = 0 := by decide
 have e4 : IntKind.u8.max = 255 := by decide
 simp [Lit.wf, e3, e4] at h
 omega
def DraftIn (W : World) (v : Value) : Prop :=
 ∃ Ap np cp ps u Al nl cl ls s, v = .agg #[.slice Ap np cp, .int .u8 u, .slice Al nl cl, .int .u16 s] ∧ Sl W .u16 Ap np ps ∧ np ≤ 9223372036854775807 ∧ (∀ x ∈ ps, 0 ≤ x ∧ x ≤ 65535) ∧ 0 ≤ u ∧ u ≤ 255 ∧
  Sl W .u8 Al nl ls ∧ nl ≤ 9223372036854775807 ∧ (∀ x ∈ ls, 0 ≤ x ∧ x ≤ 255) ∧ 0 ≤ s ∧ s ≤ 65535
set_option maxRecDepth 100000 in
theorem open_draft {H : Type} {enc : TypeId × Value → H} {w : World} {base : Nat} {spare : Nat → Bool} {held : Bool} {r : Reach} {b0 : Nat} {v : Value} {d : DataW H} {ps : List MemPlace}
  (hval : Value.okWide Tryz.prog w r b0 26 v) (h : DataW.Trod enc Tryz.prog w base spare held 26 v d ps) : DraftIn w v := by
 obtain ⟨cs, rfl, hsz⟩ := okWide_struct Tryz.underlying26 hval
 rw [draftCells] at hsz
 obtain ⟨l⟩ := cs
 obtain ⟨c0, c1, c2, c3, rfl⟩ := list4v l hsz
 obtain ⟨fuel, hf⟩ := h
 obtain ⟨y0, y1, y2, y3, n, _, _, h0, h1, h2, h3⟩ := trod_struct4 Tryz.underlying26 hf
 simp only [cells16, cells8, cellU16, cellU8, Value.cells] at h0 h1 h2 h3
 obtain ⟨Ap, np, cp, ps, rfl, sp, _, np1, wp⟩ := open_slT Tryz.underlying22 Tryz.underlying24 cellU16 h0
 obtain ⟨u, e1, _, w1⟩ := DataW.trod_int Tryz.underlying5 h1
 obtain ⟨Al, nl, cl, ls, rfl, sl, _, nl1, wl⟩ := open_slT Tryz.underlying23 Tryz.underlying5 cellU8 h2
 obtain ⟨s, e3, _, w3⟩ := DataW.trod_int Tryz.underlying24 h3
 simp at e1 e3
 subst e1 e3
 exact ⟨Ap, np, cp, ps, u, Al, nl, cl, ls, s, rfl, sp, np1, fun x hx => wf_u16 (wp x hx), (wf_u8 w1).1, (wf_u8 w1).2, sl, nl1, fun x hx => wf_u8 (wl x hx), (wf_u16 w3).1, (wf_u16 w3).2⟩
end Go.Proofs.YteocdndanehpnaaGreat
